/- What a function gives back. -/
import Derived.Test.YtahehkidnfmfnaaGreatPvFun
set_option linter.all false
namespace Go.PV
open Go

section
variable {P : Program} {Γ : Tab} {G : GTab} {B : Nat → Prop} {new : Id → Prop} {s : St} {tmps : Array Value} {w : World} {φ : Hd} {β : Bl}

def resSem (tmps : Array Value) : ResultVar → Sem Value
  | .tmp t => pure (tmps.getD t undef)
  | .cell a t => do loadVar t (← asAddr (tmps.getD a undef))

theorem res_one (hΓ : TabOk P Γ) (Rl : Rel P B new s tmps w φ β) {rv : ResultVar} {v : V} (h : resultV s Γ rv = some v) : ∃ val, (resSem tmps rv).run P w = .ok val w ∧ VR P s.sto φ w B v val := by
  unfold resultV at h
  split at h
  · injection h with h
    subst h
    exact ⟨_, rfl, Rl.env _⟩
  · rename_i a τ
    split at h
    · rename_i id d he hd
      split at h
      · rename_i cs ho
        obtain ⟨hn, h⟩ := cond_some h
        injection h with h
        subst h
        have hn := beq_eq hn
        have h1 := Rl.env a
        rw [he] at h1
        obtain ⟨g, h2, h3⟩ := h1
        obtain ⟨v', h4, ⟨g', cur, e, h5, h6, h7, h8⟩, _⟩ := Rl.obj id _ ho
        rw [h2] at h4
        injection h4 with h4
        subst h4
        injection h5 with h5
        injection h5 with h5
        injection h5 with h5
        subst h5
        have hl : cur.toList.length = d.ty.n := by rw [h8.1, hn]
        have hc : Cells w g 0 cur.toList := fun j hj => by
          rw [cell_of_heap h6, Nat.zero_add, ← Array.getElem?_toList]
          exact List.getElem?_eq_getElem hj
        have hrun := run_loadVar hΓ hd hl hc
        refine ⟨d.ty.mk cur.toList, ?_, ?_⟩
        · simp only [resSem, Sem.run_bind, h3, asAddr]
          simpa [Instr.loadAt, Instr.sureAddr] using hrun
        · have := ofCells_rel (b := d.ty.agg) h8 (fun ha => by rw [hl, n_one ha])
          exact this
      · cases h
    · cases h

theorem res_all (hΓ : TabOk P Γ) (Rl : Rel P B new s tmps w φ β) : ∀ {l : List ResultVar} {vs : List V}, resVs Γ s l = some vs → ∃ vals : List Value, (l.mapM (resSem tmps)).run P w = .ok vals w ∧ VsR P s.sto φ w B vs vals := by
  intro l
  induction l with
  | nil => intro vs h; injection h with h; subst h; exact ⟨[], by simp, trivial⟩
  | cons r l ih =>
    intro vs h
    obtain ⟨v, h1, h⟩ := ob_some (show ob (resultV s Γ r) _ = some vs from h)
    obtain ⟨vs', h2, h⟩ := ob_some h
    injection h with h
    subst h
    obtain ⟨val, h3, h4⟩ := res_one hΓ Rl h1
    obtain ⟨vals, h5, h6⟩ := ih h2
    exact ⟨val :: vals, by simp [List.mapM_cons, h3, h5], h4, h6⟩

theorem results_run (hΓ : TabOk P Γ) (Rl : Rel P B new s tmps w φ β) {fn : Func} {vs : List V} (h : resVs Γ s fn.results.toList = some vs) :
    ∃ vals : List Value, (results fn tmps).run P w = .ok (retV vals) w ∧ VsR P s.sto φ w B vs vals := by
  obtain ⟨vals, h1, h2⟩ := res_all hΓ Rl h
  refine ⟨vals, ?_, h2⟩
  have hm : (fn.results.mapM (resSem tmps)).run P w = .ok vals.toArray w := by
    rw [Array.mapM_eq_mapM_toList, Sem.run_map, h1]
    rfl
  have he : results fn tmps = (do let vs ← fn.results.mapM (resSem tmps); pure (if h : vs.size = 1 then vs[0] else .tuple vs) : Sem Value) := by
    unfold results
    congr 1
  rw [he]
  simp only [Sem.run_bind, hm, Result.andThen_ok]
  match vals with
  | [] => rfl
  | [v] => rfl
  | v :: u :: l => simp [retV]

theorem asCapsT_rel {σ0 σ : Sto} (O : Obs P σ0 σ φ β w B) (hσ : ∀ id o, σ id = some o → σ0 id = some o) {self : Value} : ∀ {t : Ty} {caps : List Cap} {vs : List Value} {x : t.T}, vs.length = caps.length →
    (∀ (i : Nat) c u, caps[i]? = some c → vs[i]? = some u → CapR P φ w B self c u) → asCapsT σ t caps = some x → Rd P t w (Bx σ β B) vs x := by
  have one : ∀ {a : Ty} {c : Cap} {u : Value} {x : a.T}, CapR P φ w B self c u → capC σ a c = some x → Rd P (.ptr a) w (Bx σ β B) [u] x := fun {a c u x} hc h => by
    obtain ⟨us, h1, h2⟩ := capC_rel O hσ hc h
    have h3 := h2
    obtain ⟨g, us', rfl, _⟩ := h2
    subst h1
    exact h3
  intro t
  induction t with
  | unit =>
    intro caps vs x hl hc h
    cases caps with
    | nil => exact List.eq_nil_of_length_eq_zero (by simpa using hl)
    | cons c cs => simp [asCapsT] at h
  | pair a b _ ihb =>
    intro caps vs x hl hc h
    cases caps with
    | nil => cases a <;> simp [asCapsT] at h
    | cons c cs =>
      cases vs with
      | nil => simp at hl
      | cons u us =>
        cases a <;> simp only [asCapsT] at h <;> first | (cases h; done) | skip
        obtain ⟨y, h1, h⟩ := ob_some h
        obtain ⟨z, h2, h⟩ := ob_some h
        injection h with h
        subst h
        exact ⟨[u], us, rfl, one (hc 0 c u rfl rfl) h1, ihb (by simpa using hl) (fun i c u hi hu => hc (i + 1) c u (by simpa using hi) (by simpa using hu)) h2⟩
  | ptr a _ =>
    intro caps vs x hl hc h
    match caps, h with
    | [], h => simp [asCapsT] at h
    | c :: d :: r, h => simp [asCapsT] at h
    | [c], h =>
      obtain ⟨u, rfl⟩ := List.length_eq_one_iff.1 (by simpa using hl)
      exact one (hc 0 c u rfl rfl) h
  | _ => intro caps vs x hl hc h; simp [asCapsT] at h

theorem asR_rel {σ0 σ : Sto} (O : Obs P σ0 σ φ β w B) (hσ : ∀ id o, σ id = some o → σ0 id = some o) {t : Ty} {v : V} {val : Value} {x : t.T} (hv : VR P σ0 φ w B v val) (h : asR σ t v = some x) :
    ∃ us, val = t.mk us ∧ Rd P t w (Bx σ β B) us x := by
  unfold asR at h
  split at h
  · rename_i f' t' f caps
    obtain ⟨hb, h'⟩ := cond_some h
    clear h
    have hb := beq_eq hb
    subst hb
    obtain ⟨vs, rfl, h1, _, h2⟩ := hv
    exact ⟨_, rfl, vs, rfl, asCapsT_rel O hσ h1 h2 h'⟩
  · exact asT_rel O hσ hv h

theorem takeRow_rel (Rl : Rel P B new s tmps w φ β) {t : Ty} {v : V} {val : Value} {x : t.T} (hv : VR P s.sto φ w B v val) (h : takeRow s.sto t v = some x) :
    ∃ id b, elIds v = [id] ∧ s.sto id ≠ none ∧ b.Sublist (β id) ∧ val = t.mk [val] ∧ OwT P t w B [val] x b := by
  unfold takeRow at h
  split at h
  · rename_i e a id i hv0
    split at h
    · rename_i e0 e' a' xs hv' ho
      obtain ⟨hb, h'⟩ := cond_some h
      obtain ⟨hb1, hb2⟩ := both_true.1 hb
      have hb1 := beq_eq hb1
      clear h hb
      subst hb1
      obtain ⟨e1, rfl⟩ := castT_some h'
      injection e1 with e1 e2
      subst e1
      subst e2
      obtain ⟨c1, c2, c3, c4⟩ := hv
      obtain ⟨g, o, n, c, q1, q2, q3, q4⟩ := c4 _ _ _ _ _ ho
      obtain ⟨v0, r1, r2, _⟩ := Rl.obj id _ ho
      rw [q1] at r1
      injection r1 with r1
      subst r1
      have r2' : OwD P a' w B _ xs none (β id) := r2
      rcases r2' with ⟨h0, _⟩ | ⟨g', o', c', cur, ee, bss, h1, h2, h3, h4, h5, h6, h7⟩
      · cases h0
      · injection h1 with h1 h1n h1c
        injection h1 with h1
        injection h1 with hg ho'
        subst hg
        subst ho'
        subst h1n
        obtain ⟨k, rfl⟩ := Int.eq_ofNat_of_zero_le q2
        have hk : k < xs.length := by omega
        obtain ⟨u, h8, h9, h10⟩ := h7 k hk
        rcases h10 with ⟨h10, _⟩ | ⟨b, h11, h12⟩
        · cases h10
        · have hu : u = val := by
            rw [Int.toNat_natCast, cell_of_heap h2, h8] at q4
            injection q4
          subst hu
          have hx : rd (Ty.list e' a') xs (k : Int) = xs[k] := by
            unfold rd
            rw [Int.toNat_natCast, List.getD_eq_getElem?_getD, List.getElem?_eq_getElem hk]
            rfl
          refine ⟨id, b, rfl, by rw [ho]; simp, ?_, rfl, u, rfl, ?_, ?_⟩
          · rw [h5]
            exact (List.sublist_flatten_of_mem (List.mem_of_getElem? h11)).cons _
          · rcases h12 with ⟨h, _⟩ | ⟨_, _, _, _, _, h, _⟩
            · exact ⟨_, _, _, h⟩
            · exact ⟨_, _, _, h⟩
          · rw [no_true.1 hb2, hx]
            exact h12
    · cases h
  · cases h

theorem takeRes_rel (Rl : Rel P B new s tmps w φ β) {σ' : Sto} (hσ' : ∀ id o, σ' id = some o → s.sto id = some o) {B2 : Nat → Prop} (hB : ∀ b, Bx σ' β B b → B2 b) :
    ∀ {rs : List (Bool × Ty)} {vs : List V} {vals : List Value} {y : resT rs}, VsR P s.sto φ w B vs vals → takeRes s.sto σ' rs vs = some y →
      ∃ bs, bs.Sublist ((resIds s.sto rs vs).flatMap β) ∧ ResR P w B2 rs vals y bs ∧ ∀ i ∈ resIds s.sto rs vs, s.sto i ≠ none := by
  intro rs
  induction rs with
  | nil =>
    intro vs vals y hv h
    cases vs with
    | nil => cases vals with
      | nil => exact ⟨[], by simp, rfl, by simp [resIds]⟩
      | cons _ _ => exact False.elim hv
    | cons v vs => simp [takeRes] at h
  | cons q rs ih =>
    intro vs vals y hv h
    obtain ⟨own, t⟩ := q
    cases vs with
    | nil => simp [takeRes] at h
    | cons v vs =>
      cases vals with
      | nil => exact False.elim hv
      | cons val vals =>
        obtain ⟨x, h1, h⟩ := ob_some (show ob (cond (both own (isEl v)) (takeRow s.sto t v) (resC (cond own s.sto σ') true own t v)) _ = some y from h)
        obtain ⟨z, h2, h⟩ := ob_some h
        injection h with h
        subst h
        obtain ⟨bs, hs, h3, h4⟩ := ih hv.2 h2
        cases own with
        | false =>
          obtain ⟨us, h5, h6⟩ := asR_rel (Rl.obs hσ') hσ' hv.1 (show asR σ' t v = some x from h1)
          exact ⟨bs, hs, ⟨us, [], _, h5, rfl, .inl ⟨rfl, h6.mono hB, rfl⟩, h3⟩, h4⟩
        | true =>
          cases hel : isEl v with
          | true =>
            rw [hel] at h1
            obtain ⟨id, b, k1, k2, k3, k4, k5⟩ := takeRow_rel Rl hv.1 (show takeRow s.sto t v = some x from h1)
            have e : resIds s.sto ((true, t) :: rs) (v :: vs) = [id] ++ resIds s.sto rs vs := by simp [resIds, hel, k1]
            rw [e, List.flatMap_append]
            refine ⟨b ++ bs, (show b.Sublist ([id].flatMap β) by simpa using k3).append hs, ⟨[val], b, bs, k4, rfl, .inr ⟨rfl, k5.mono fun b hb => hB b (.inl hb)⟩, h3⟩, fun i hi => ?_⟩
            rcases List.mem_append.1 hi with h | h
            · rw [List.mem_singleton] at h
              subst h
              exact k2
            · exact h4 i h
          | false =>
            rw [hel] at h1
            obtain ⟨cs, k1, h1⟩ := ob_some (show ob v.cells _ = some x from h1)
            obtain ⟨hb, h1⟩ := cond_some h1
            obtain ⟨hb1, hb2⟩ := both_true.1 hb
            have hc := cells_rel hv.1 k1
            obtain ⟨k2, k3⟩ := ownCs_rel Rl (σ' := fun _ => none) (Bc := B) (fun _ _ h => h) (fun _ _ h => by cases h) (fun b hb => hb.elim _root_.id fun ⟨_, h, _⟩ => absurd rfl h) hc h1
            have hl : cs.length = t.n := by rw [← hc.1, k2.len]
            have e : resIds s.sto ((true, t) :: rs) (v :: vs) = refs s.sto t cs ++ resIds s.sto rs vs := by simp [resIds, hel, k1]
            rw [e, List.flatMap_append]
            refine ⟨_, (List.Sublist.refl _).append hs, ⟨_, _, _, vr_mk hv.1 k1 hb1 hl, rfl, .inr ⟨rfl, k2.mono fun b hb => hB b (.inl hb)⟩, h3⟩, fun i hi => ?_⟩
            rcases List.mem_append.1 hi with h | h
            · exact k3 i h
            · exact h4 i h

theorem takeMut_rel (Rl : Rel P B new s tmps w φ β) {B2 : Nat → Prop} (hB : ∀ b, B b → B2 b) :
    ∀ {ps : List (Mode × Ty)} {vals : List Value} {y : mutT ps} (i : Nat), (∀ k v, i + k ∈ mutSlots ps i → vals[k]? = some v → tmps.getD (i + k) undef = v) → vals.length = ps.length → takeMut s ps i = some y →
      MutR P w B2 ps vals y ((mutIds s.sto s.env ps i).flatMap β) ∧ ∀ j ∈ mutIds s.sto s.env ps i, s.sto j ≠ none := by
  intro ps
  induction ps with
  | nil => intro vals y i _ _ _; exact ⟨rfl, by simp [mutIds]⟩
  | cons p ps ih =>
    obtain ⟨m, t⟩ := p
    intro vals y i hv hl h
    cases vals with
    | nil => simp at hl
    | cons v vs =>
      have hl' : vs.length = ps.length := by simpa using hl
      have tl : (∀ k, i + 1 + k ∈ mutSlots ps (i + 1) → i + (k + 1) ∈ mutSlots ((m, t) :: ps) i) → ∀ k u, i + 1 + k ∈ mutSlots ps (i + 1) → vs[k]? = some u → tmps.getD (i + 1 + k) undef = u := fun hm k u h1 h2 => by
        have e : i + 1 + k = i + (k + 1) := by omega
        rw [e]
        exact hv (k + 1) u (hm k h1) (by simpa using h2)
      cases m with
      | ro => exact ih (i + 1) (tl fun k hk => by have e : i + (k + 1) = i + 1 + k := by omega
                                                  rw [e]; exact hk) hl' h
      | own => exact ih (i + 1) (tl fun k hk => by have e : i + (k + 1) = i + 1 + k := by omega
                                                   rw [e]; exact hk) hl' h
      | «mut» =>
        obtain ⟨x, h1, h⟩ := ob_some (show ob (resC s.sto false true t (s.env i)) _ = some y from h)
        obtain ⟨z, h2, h⟩ := ob_some h
        injection h with h
        subst h
        obtain ⟨h3, h4⟩ := ih (i + 1) (tl fun k hk => by have e : i + (k + 1) = i + 1 + k := by omega
                                                         rw [e]; exact List.mem_cons_of_mem _ hk) hl' h2
        have hval : tmps.getD i undef = v := by
          have := hv 0 v (List.mem_cons_self ..) (by simp)
          rwa [Nat.add_zero] at this
        have hve := Rl.env i
        rw [hval] at hve
        obtain ⟨cs, k1, h1⟩ := ob_some (show ob (s.env i).cells _ = some x from h1)
        obtain ⟨hb, h1⟩ := cond_some h1
        obtain ⟨hb1, hb2⟩ := both_true.1 hb
        have hc := cells_rel hve k1
        obtain ⟨k2, k3⟩ := ownCs_rel Rl (σ' := fun _ => none) (Bc := B) (fun _ _ h => h) (fun _ _ h => by cases h) (fun b hb => hb.elim _root_.id fun ⟨_, h, _⟩ => absurd rfl h) hc h1
        have hll : cs.length = t.n := by rw [← hc.1, k2.len]
        have e : mutIds s.sto s.env ((.mut, t) :: ps) i = refs s.sto t cs ++ mutIds s.sto s.env ps (i + 1) := by simp [mutIds, k1]
        rw [e]
        refine ⟨⟨v, _, _, _, rfl, vr_mk hve k1 hb1 hll, by rw [List.flatMap_append], (k2.mono hB).toM, h3⟩, fun j hj => ?_⟩
        rcases List.mem_append.1 hj with h | h
        · exact k3 j h
        · exact h4 j h

theorem live_nodup (Rl : Rel P B new s tmps w φ β) : ∀ l : List Id, l.Nodup → (∀ i ∈ l, s.sto i ≠ none) → (l.flatMap β).Nodup := by
  intro l
  induction l with
  | nil => intro _ _; simp
  | cons d l ih =>
    intro hn hs
    simp only [List.flatMap_cons]
    rw [List.nodup_append]
    obtain ⟨o, ho⟩ := Option.ne_none_iff_exists'.1 (hs d (by simp))
    obtain ⟨_, _, _, h3, _⟩ := Rl.obj d o ho
    refine ⟨h3, ih (List.nodup_cons.1 hn).2 fun d hd => hs d (by simp [hd]), fun x hx y hy e => ?_⟩
    subst e
    obtain ⟨d', hd', hb⟩ := List.mem_flatMap.1 hy
    exact Rl.sep d d' (fun e => (List.nodup_cons.1 hn).1 (e ▸ hd')) (hs d (by simp)) (hs d' (by simp [hd'])) x hx hb

def nOwn : List (Mode × Ty) → Nat
  | [] => 0
  | (.ro, _) :: ps => nOwn ps
  | (.own, t) :: ps => lists t + nOwn ps
  | (.mut, t) :: ps => lists t + nOwn ps
theorem mkOwn_len : ∀ (t : Ty) (x : t.T) (d : Nat), (mkOwn t x d).2.1.length = lists t := by
  intro t
  induction t with
  | pair a b iha ihb => intro x d; simp [mkOwn, lists, iha, ihb]
  | kclo f t ih => intro x d; exact ih x d
  | _ => intro x d; rfl
theorem entryV_len : ∀ (ps : List (Mode × Ty)) (x : argsT ps) (i d : Nat), (entryV ps x i d).2.length = nOwn ps := by
  intro ps
  induction ps with
  | nil => intro x i d; rfl
  | cons p ps ih =>
    obtain ⟨m, t⟩ := p
    intro x i d
    cases m with
    | ro => exact ih _ _ _
    | own => simp [entryV, nOwn, mkOwn_len, ih]
    | «mut» => simp [entryV, nOwn, mkOwn_len, ih]

theorem args_len : ∀ {ps : List (Mode × Ty)} {vals : List Value} {x : argsT ps} {bs : List Nat}, ArgsR P w B ps vals x bs → vals.length = ps.length := by
  intro ps
  induction ps with
  | nil => intro vals x bs h; cases vals with
    | nil => rfl
    | cons _ _ => exact False.elim h
  | cons p ps ih =>
    obtain ⟨m, t⟩ := p
    intro vals x bs h
    cases vals with
    | nil => exact False.elim h
    | cons v vs => obtain ⟨us, b1, b2, _, _, _, h4⟩ := h; simp [ih h4]

theorem fun_ok (hP : ProgOk P Γ) (hG : GOk P G) (hD : ∀ ops, DrawOk P Γ G ops) {f : FuncId} {fn : Func} {c : Code} {L : List LSum} {ps : List (Mode × Ty)} {rs : List (Bool × Ty)} (hent : Ent P f)
    (hf : P.funcs[f]? = some fn) (hb : fn.body = some c) (hL : ∀ i, i < nloops c → ∀ l, L[i]? = some l → LoopOk P fn.ntmps l (loopAt c i))
    (hc : (okC Γ c []).isSome = true) (hlow : lowC fn.ntmps c = true) (hlen : Nat.ble ps.length fn.ntmps = true) (hms : noneOf (mutSlots ps 0) (asgC c) = true) (h32 : Nat.ble (nOwn ps) 32 = true) :
    PC P f ⟨ps, rs, funF G Γ L fn ps rs⟩ := by
  refine ⟨hent, fun w B vals x bs y ha hself hnd hbs hlowB h => ?_⟩
  have hvl : vals.length = ps.length := args_len ha
  have hlen := ble_le hlen
  obtain ⟨N, p1, p2, p3, R0, p4⟩ := entry_sound ha hself hnd hbs hlowB (n := fn.ntmps) (by rw [hvl]; exact hlen) (by rw [entryV_len]; exact ble_le h32)
  obtain ⟨u', hc'⟩ := Option.isSome_iff_exists.1 hc
  have h : codeF G Γ L c 0 (entry ps x) (endF Γ ps rs fn.results.toList) = some y := by
    have h : funF G Γ L fn ps rs x = some y := h
    unfold funF at h
    rw [hb] at h
    exact h
  refine calls_of_wp hf hb ?_
  refine code_sound hP hG hD c 0 (by simpa using hL) hc' hlow (a := { tmps := vals.toArray ++ Array.replicate (fn.ntmps - vals.toArray.size) undef, defers := [] }) (by simp; omega) (by simpa using R0) h fun e s' a' w' B' φ' β' hk q1 q2 q3 q4 q5 => ?_
  have fin : e ≠ .normal ∧ (∀ i, e ≠ .exit i) ∧ e = .ret ∨ e = .normal ∨ (∃ i, e = .exit i) := by
    cases e with
    | normal => exact .inr (.inl rfl)
    | exit i => exact .inr (.inr ⟨i, rfl⟩)
    | ret => exact .inl ⟨by simp, by simp, rfl⟩
  have hk' : (∃ i, e = .exit i) → False := fun ⟨i, hi⟩ => by subst hi; cases hk
  have hk : ob (resVs Γ s' fn.results.toList) (fun vs => cond (nodupIds (resIds s'.sto rs vs ++ mutIds s'.sto s'.env ps 0))
      (ob (takeRes s'.sto (s'.sto.puts ((resIds s'.sto rs vs ++ mutIds s'.sto s'.env ps 0).map fun i => (i, none))) rs vs) fun y => ob (takeMut s' ps 0) fun m => some (y, m)) none) = some y := by
    cases e with
    | normal => exact hk
    | ret => exact hk
    | exit i => exact (hk' ⟨i, rfl⟩).elim
  obtain ⟨vs, h1, hk⟩ := ob_some hk
  obtain ⟨h2, hk⟩ := cond_some hk
  obtain ⟨yr, h3, hk⟩ := ob_some hk
  obtain ⟨ym, h4, hk⟩ := ob_some hk
  injection hk with hk
  subst hk
  have hnd2 := nodupIds_ok h2
  obtain ⟨us, r1, r2⟩ := results_run hP.tab q1 h1
  generalize hσe : s'.sto.puts ((resIds s'.sto rs vs ++ mutIds s'.sto s'.env ps 0).map fun i => (i, none)) = σ' at h3
  have hσ' : ∀ i o, σ' i = some o → s'.sto i = some o ∧ i ∉ resIds s'.sto rs vs ++ mutIds s'.sto s'.env ps 0 := fun i o ho => by
    rw [← hσe, puts_none] at ho
    split at ho
    · cases ho
    · rename_i hi; exact ⟨ho, hi⟩
  obtain ⟨bsr, t0, t1, t2⟩ := takeRes_rel (B2 := Bx σ' β' B') q1 (fun i o ho => (hσ' i o ho).1) (fun _ h => h) r2 h3
  have hslots : ∀ k v, 0 + k ∈ mutSlots ps 0 → vals[k]? = some v → a'.tmps.getD (0 + k) undef = v := fun k v hk hv => by
    rw [q5 (0 + k) (noneOf_ok hms _ hk), Nat.zero_add]
    have hlt : k < vals.length := (List.getElem?_eq_some_iff.1 hv).1
    have : (vals.toArray ++ Array.replicate (fn.ntmps - vals.toArray.size) undef)[k]? = some v := by
      rw [Array.getElem?_append_left (by simpa using hlt)]
      simpa using hv
    show (vals.toArray ++ Array.replicate (fn.ntmps - vals.toArray.size) undef).getD k undef = v
    rw [Array.getD_eq_getD_getElem?, this]
    rfl
  obtain ⟨m1, m2⟩ := takeMut_rel (B2 := Bx σ' β' B') q1 (fun _ h => .inl h) 0 hslots hvl h4
  have hall : ∀ i ∈ resIds s'.sto rs vs ++ mutIds s'.sto s'.env ps 0, s'.sto i ≠ none := fun i hi => (List.mem_append.1 hi).elim (t2 i) (m2 i)
  have hold : ∀ b, (∃ k, (entry ps x).sto k ≠ none ∧ b ∈ betaL (fun _ => []) N k) → b ∈ bs := fun b ⟨k, _, hk⟩ => p4 k b hk
  have hQ : a'.defers = [] ∧ ∃ v, (results fn a'.tmps).run P w' = .ok v w' ∧ (fun e w' => ∃ us B' rbs mbs, e = Ending.returned (retV us) ∧ ResR P w' B' rs us yr rbs ∧ MutR P w' B' ps vals ym mbs ∧ Fr w w' (fun b => b ∉ bs) ∧ (rbs ++ mbs).Nodup ∧
      (∀ b ∈ rbs ++ mbs, ¬ B' b ∧ b < w'.heap.size ∧ (w.heap.size ≤ b ∨ b ∈ bs)) ∧ (∀ b, B b → B' b) ∧ (∀ b, B' b → b < w'.heap.size ∧ (B b ∨ w.heap.size ≤ b ∨ b ∈ bs))) (.returned v) w' := by
    refine ⟨q4, _, r1, us, Bx σ' β' B', _, _, rfl, t1, m1, q2.kept.mono fun b hb j hj hbj => hb (p4 j b hbj), ?_, fun b hb => ?_, fun b hb => .inl (q2.mem b hb), fun b hb => ?_⟩
    · refine (t0.append (List.Sublist.refl _)).nodup ?_
      rw [← List.flatMap_append]
      exact live_nodup q1 _ hnd2 hall
    · have hb := (t0.append (List.Sublist.refl _)).subset hb
      rw [← List.flatMap_append] at hb
      obtain ⟨i, hi, hbi⟩ := List.mem_flatMap.1 hb
      obtain ⟨o, ho⟩ := Option.ne_none_iff_exists'.1 (hall i hi)
      obtain ⟨_, _, _, _, h5⟩ := q1.obj i o ho
      refine ⟨fun hB => ?_, (h5 b hbi).2, (q2.own i b (hall i hi) hbi).imp _root_.id (hold b)⟩
      rcases hB with hB | ⟨k, hk, hbk⟩
      · exact (h5 b hbi).1 hB
      · obtain ⟨o', ho'⟩ := Option.ne_none_iff_exists'.1 hk
        obtain ⟨h6, h7⟩ := hσ' k o' ho'
        exact q1.sep i k (fun e => h7 (e ▸ hi)) (hall i hi) (by rw [h6]; simp) b hbi hbk
    · rcases hb with hb | ⟨k, hk, hbk⟩
      · exact ⟨q1.low b hb, (q2.rd b hb).imp _root_.id fun h => h.imp _root_.id (hold b)⟩
      · obtain ⟨o', ho'⟩ := Option.ne_none_iff_exists'.1 hk
        obtain ⟨h6, h7⟩ := hσ' k o' ho'
        obtain ⟨_, _, _, _, h5⟩ := q1.obj k o' h6
        exact ⟨(h5 b hbk).2, .inr ((q2.own k b (by rw [h6]; simp) hbk).imp _root_.id (hold b))⟩
  cases e with
  | normal => exact hQ
  | ret => exact hQ
  | exit i => exact (hk' ⟨i, rfl⟩).elim
end
end Go.PV
