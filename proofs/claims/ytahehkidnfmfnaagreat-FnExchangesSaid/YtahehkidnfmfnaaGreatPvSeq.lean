/- Operations one behind the other. -/
import Derived.Test.YtahehkidnfmfnaaGreatPvOp
set_option linter.all false
namespace Go.PV
open Go

section
variable {P : Program} {Γ : Tab} {G : GTab} {B : Nat → Prop} {new : Id → Prop} {s : St} {a : Act} {w : World} {φ : Hd} {β : Bl} {R : Type} {r : R}
  {Q : Exit → Act → World → Prop} {o : Oper}

theorem env_same {e : Env} {t : Nat} {v : V} (h : e t = v) : e.put (some t) v = e := by
  funext u
  show cond (Nat.beq u t) v (e u) = e u
  cases hb : Nat.beq u t with
  | true => have := beq_eq hb; subst this; exact h.symm
  | false => rfl
theorem St.same {s : St} {t : Nat} {v : V} (h : s.env t = v) : { s with env := s.env.put (some t) v } = s := by rw [env_same h]

theorem only_sub {σ : Sto} {l : List Id} : ∀ id o, (σ.only l) id = some o → σ id = some o := fun _ _ h => (only_some h).1

theorem amb_some {x y : Option R} (h : amb x y = some r) : x = some r ∧ y = some r := by
  unfold amb at h
  split at h
  · rename_i e; exact ⟨h, e ▸ h⟩
  · cases h

theorem run_equal_nil {τ e : TypeId} {A : Option Addr} {n c : Nat} (hu : P.underlying τ = some (.slice e)) (d : Nat) : (Op.equalIn (d + 1) τ (.slice A n c) (.slice none 0 0)).run P w = .ok A.isNone w := by
  cases A <;> simp [Op.equalIn, run_underlying hu]

theorem isList_under (hΓ : TabOk P Γ) {τ : TypeId} (h : isList Γ τ = true) : ∃ e, P.underlying τ = some (.slice e) := by
  unfold isList at h
  split at h
  · rename_i e t _ _ hd
    obtain ⟨i, z, u, I⟩ := hΓ _ _ hd
    obtain ⟨hu, _⟩ := I.list _ _ rfl
    exact ⟨e, by rw [I.under, hu]⟩
  · cases h

theorem nil_sound (hP : ProgOk P Γ) (Rl : Rel P B new s a.tmps w φ β) {p b : Bool} (hc : nilCmp Γ s.env o = some (p, b)) {K : Kont R}
    (h : br b (amb (K (roV .bool p) []) (K (roV .bool (no p)) [])) (K (roV .bool (no p)) []) = some r) {next : Act → World → Prop} (hnext : Nxt P B new s a w φ β K r o (dstN Γ o) next) : o.wp P a w next Q := by
  unfold nilCmp at hc
  split at hc
  · rename_i op τ x y ty hop
    split at hc
    · rename_i e t xs hx hy
      obtain ⟨hl, hc⟩ := cond_some hc
      obtain ⟨e', hu⟩ := isList_under hP.tab hl
      have h1 := opd_rel Rl x
      rw [hx] at h1
      have h2 := opd_rel Rl y
      rw [hy] at h2
      have h2 : a.eval y = .slice none 0 0 := h2
      obtain ⟨us, h1, A, c, rfl, hlen, hread⟩ := h1
      have h1 : a.eval x = .slice A (xs : List t.T).length c := h1
      have hres : ∃ q : Bool, (∀ v, A.isNone = v → q = (if p = true then v else !v)) ∧ (execOp a.eval o).run P w = .ok (.value (.bool q)) w ∧ b = ieq (tLen xs) 0 := by
        have heq : (binOp .eql τ (.slice A (xs : List t.T).length c) (.slice none 0 0)).run P w = .ok (.bool A.isNone) w := by
          simp only [binOp]
          simp [Op.equal, Op.maxDepth, run_equal_nil (P := P) (w := w) (A := A) hu 9999]
        have hne : (binOp .neq τ (.slice A (xs : List t.T).length c) (.slice none 0 0)).run P w = .ok (.bool (!A.isNone)) w := by
          simp only [binOp]
          simp [Op.equal, Op.maxDepth, run_equal_nil (P := P) (w := w) (A := A) hu 9999]
        split at hc
        · injection hc with hc
          injection hc with hc1 hc2
          subst hc1 hc2
          refine ⟨A.isNone, fun v hv => by simp [hv], ?_, rfl⟩
          unfold execOp
          rw [hop]
          simp [h1, h2, eqGuard, heq]
        · injection hc with hc
          injection hc with hc1 hc2
          subst hc1 hc2
          refine ⟨!A.isNone, fun v hv => by simp [hv], ?_, rfl⟩
          unfold execOp
          rw [hop]
          simp [h1, h2, eqGuard, hne]
        · cases hc
      obtain ⟨q, hq, hrun, hb⟩ := hres
      have hK : K (roV .bool q) [] = some r := by
        have hemp : b = false → A.isNone = false := fun hbf => by
          rw [hb] at hbf
          have hpos : 0 < (xs : List t.T).length := by
            rcases Nat.eq_zero_or_pos (xs : List t.T).length with h0 | h0
            · simp [ieq, tLen, h0] at hbf
            · exact h0
          obtain ⟨g, of, hA, _⟩ := hread hpos
          rw [hA]
          rfl
        cases b with
        | true =>
          obtain ⟨k1, k2⟩ := amb_some (show amb _ _ = some r from h)
          cases hA : A.isNone with
          | true =>
            rw [hq _ hA]
            cases p with
            | true => exact k1
            | false => exact k1
          | false =>
            rw [hq _ hA]
            cases p with
            | true => exact k2
            | false => exact k2
        | false =>
          have h : K (roV .bool (no p)) [] = some r := h
          rw [hq _ (hemp rfl)]
          cases p with
          | true => exact h
          | false => exact h
      unfold Oper.wp
      rw [hrun]
      refine hnext _ [] (.bool q) w B φ β hK (cr_bool q) ⟨⟨fun _ _ h => h, fun _ _ e t m xs hv hole h => ⟨e, m, xs, hv, hole, h, Nat.le_refl _, fun h => h⟩, fun _ h => h, Fr.refl _ _, fun _ _ _ _ _ _ _ _ _ _ _ _ _ _ _ _ _ _ _ _ h => h⟩, Gr.refl _ _ _ _⟩
        (Rl.less fun _ h => h.1)
    · cases hc
  · cases hc

theorem run_sound (hP : ProgOk P Γ) (hG : GOk P G) (Rl : Rel P B new s a.tmps w φ β) (hnew : ∀ d, dstN Γ o = some d → ∀ j, j < 32 → new (32 * (d + 1) + j)) {drawn : Bool} {K : Kont R}
    {next : Act → World → Prop} (h : runF G Γ drawn s o K = some r) (hnext : Nxt P B new s a w φ β K r o (dstN Γ o) next) : o.wp P a w next Q := by
  unfold runF at h
  cases drawn with
  | true => exact op_sound hP hG Rl hnew (σr := s.sto.only (opReach s o)) only_sub h hnext
  | false =>
    simp only [cond_false] at h
    split at h
    · rename_i p b hc
      exact nil_sound hP Rl hc h hnext
    · exact op_sound hP hG Rl hnew (σr := s.sto) (fun _ _ h => h) h hnext

theorem bool_tmp (Rl : Rel P B new s a.tmps w φ β) {t : Nat} {b : Bool} (h : s.env t = .one (.ro .bool b)) : a.tmps[t]? = some (.bool b) := by
  have h1 := Rl.env t
  rw [h] at h1
  have h2 := vr_bool h1
  cases hq : a.tmps[t]? with
  | none => simp [hq, undef] at h2
  | some v => simp [hq] at h2; rw [h2]
theorem undef_tmp (Rl : Rel P B new s a.tmps w φ β) {t : Nat} (h : s.env t = .one .undef) : ∀ b, a.tmps[t]? ≠ some (.bool b) := by
  intro b hb
  have h1 := Rl.env t
  rw [h] at h1
  have h2 : a.tmps.getD t undef = undef := h1
  simp [hb, undef] at h2

def Same (l : List Nat) (a a' : Act) : Prop := ∀ t, t ∉ l → a'.tmps.getD t undef = a.tmps.getD t undef
theorem Same.refl (l : List Nat) (a : Act) : Same l a a := fun _ _ => rfl
theorem Same.trans {l : List Nat} {a b c : Act} (h : Same l a b) (h' : Same l b c) : Same l a c := fun t ht => (h' t ht).trans (h t ht)
theorem Same.mono {l m : List Nat} {a b : Act} (h : Same l a b) (hm : ∀ t ∈ l, t ∈ m) : Same m a b := fun t ht => h t fun h => ht (hm t h)
theorem same_put (a : Act) (d : Option Nat) (v : Value) : Same d.toList a (a.put d v) := by
  intro t ht
  cases d with
  | none => rfl
  | some d =>
    have hne : d ≠ t := fun e => ht (by simp [e])
    simp [Act.put, Array.getElem?_setIfInBounds_ne hne]

theorem Nxt.of {K : Kont R} {dn : Option Nat} {next : Act → World → Prop} (hd : ∀ t, o.dst = some t → t < a.tmps.size)
    (h : ∀ v u a' w' B' φ' β', K v u = some r → Rel P B' (left new dn) (s.step o.dst v u) a'.tmps w' φ' β' → Gr s.sto w B β (s.sto.puts u) w' B' β' → a'.tmps.size = a.tmps.size → a'.defers = a.defers → Same o.dst.toList a a' → next a' w') :
    Nxt P B new s a w φ β K r o dn next := by
  intro v u val w' B' φ' β' h1 h2 h3 h4
  refine h v u _ w' B' φ' β' h1 ?_ h3.2 ?_ ?_ (same_put _ _ _)
  · cases hq : o.dst with
    | none => exact h4.put (d := none) (v := v) (val := val) (fun t ht => by cases ht) h2
    | some t => exact h4.put (d := some t) (v := v) (val := val) (fun t' ht => by cases ht; exact hd t hq) h2
  · cases o.dst <;> simp [Act.put]
  · cases o.dst <;> rfl

theorem step_sound (hP : ProgOk P Γ) (hG : GOk P G) (Rl : Rel P B new s a.tmps w φ β) (hnew : ∀ d, dstN Γ o = some d → ∀ j, j < 32 → new (32 * (d + 1) + j)) {drawn : Bool} {ops : Array Oper} {K : St → Kont R}
    {next : Act → World → Prop} (h : stepF G Γ drawn ops s o K = some r) (hnext : Nxt P B new s a w φ β (K s) r o (dstN Γ o) next) :
    if Region.wanted o (yielded ops a.tmps) then o.wp P a w next Q ∨ (o.asks P a w ∧ LetsOut Q) else next (a.put o.dst undef) w := by
  have skip : K s (.one .undef) [] = some r → next (a.put o.dst undef) w := fun hk =>
    hnext _ [] undef w B φ β hk rfl ⟨⟨fun _ _ h => h, fun _ _ e t m xs hv hole h => ⟨e, m, xs, hv, hole, h, Nat.le_refl _, fun h => h⟩, fun _ h => h, Fr.refl _ _, fun _ _ _ _ _ _ _ _ _ _ _ _ _ _ _ _ _ _ _ _ h => h⟩, Gr.refl _ _ _ _⟩
      (Rl.less fun _ h => h.1)
  unfold stepF at h
  split at h
  · rename_i hg
    have hw : Region.wanted o (yielded ops a.tmps) = true := by simp [Region.wanted, hg]
    rw [if_pos hw]
    exact .inl (run_sound hP hG Rl hnew h hnext)
  · rename_i j want hg
    split at h
    · rename_i t ht
      have ht' : (ops[j]?).bind (·.dst) = some t := by
        cases hj : ops[j]? with
        | none => rw [hj] at ht; cases ht
        | some o' => rw [hj] at ht; simpa [ob] using ht
      split at h
      · rename_i he
        have hw : Region.wanted o (yielded ops a.tmps) = false := by
          have : yielded ops a.tmps j = none := by
            unfold yielded
            rw [ht']
            simp only [Option.bind_some]
            split
            · rename_i b hb; exact absurd hb (undef_tmp Rl he b)
            · rfl
          simp [Region.wanted, hg, this]
        rw [if_neg (by simp [hw])]
        exact skip h
      · rename_i b he
        have hy : yielded ops a.tmps j = some b := by
          unfold yielded
          rw [ht']
          simp [bool_tmp Rl he]
        have hw : Region.wanted o (yielded ops a.tmps) = (b == want) := by
          simp only [Region.wanted, hg, hy]
          cases b <;> cases want <;> rfl
        rw [hw]
        cases b with
        | true =>
          have hs : { s with env := s.env.put (some t) (roV .bool true) } = s := St.same he
          rw [hs] at h
          cases want with
          | true => exact .inl (run_sound hP hG Rl hnew h hnext)
          | false => exact skip h
        | false =>
          have hs : { s with env := s.env.put (some t) (roV .bool false) } = s := St.same he
          rw [hs] at h
          cases want with
          | true => exact skip h
          | false => exact .inl (run_sound hP hG Rl hnew h hnext)
      · cases h
    · cases h

def After (P : Program) (B : Nat → Prop) (s : St) (a : Act) (w : World) (β : Bl) (new' : Id → Prop) (l : List Nat) (s' : St) (a' : Act) (w' : World) : Prop :=
  ∃ B' φ' β', Rel P B' new' s' a'.tmps w' φ' β' ∧ Gr s.sto w B β s'.sto w' B' β' ∧ a'.tmps.size = a.tmps.size ∧ a'.defers = a.defers ∧ Same l a a'

def asgOps (l : List Oper) : List Nat := l.flatMap fun o => o.dst.toList
def leftL (Γ : Tab) (new : Id → Prop) (l : List Oper) : Id → Prop := fun i => new i ∧ ∀ o ∈ l, ¬ mine (dstN Γ o) i

structure OkOps (Γ : Tab) (n : Nat) (new : Id → Prop) (l : List Oper) : Prop where
  new : ∀ o ∈ l, ∀ d, dstN Γ o = some d → ∀ j, j < 32 → new (32 * (d + 1) + j)
  nodup : (l.filterMap (dstN Γ)).Nodup
  low : ∀ o ∈ l, ∀ t, o.dst = some t → t < n

theorem mine_apart {d e : Nat} {j : Nat} (h : d ≠ e) (hj : j < 32) : ¬ mine (some e) (32 * (d + 1) + j) := by
  rintro ⟨t, h1, h2, h3⟩
  cases h1
  have h2 : 32 * (e + 1) ≤ 32 * (d + 1) + j := h2
  have h3 : 32 * (d + 1) + j < 32 * (e + 1) + 32 := h3
  omega

theorem OkOps.tail {n : Nat} {l : List Oper} (h : OkOps Γ n new (o :: l)) : OkOps Γ n (left new (dstN Γ o)) l := by
  refine ⟨fun o' ho' d hd j hj => ⟨h.new o' (by simp [ho']) d hd j hj, fun hm => ?_⟩, ?_, fun o' ho' => h.low o' (by simp [ho'])⟩
  · cases hq : dstN Γ o with
    | none => rw [hq] at hm; obtain ⟨t, ht, _⟩ := hm; cases ht
    | some e =>
      rw [hq] at hm
      refine mine_apart (fun e' => ?_) hj hm
      subst e'
      have := h.nodup
      rw [List.filterMap_cons_some hq, List.nodup_cons] at this
      exact this.1 (List.mem_filterMap.2 ⟨o', ho', hd⟩)
  · have := h.nodup
    cases hq : dstN Γ o with
    | none => rwa [List.filterMap_cons_none hq] at this
    | some e => rw [List.filterMap_cons_some hq, List.nodup_cons] at this; exact this.2

theorem ops_sound (hP : ProgOk P Γ) (hG : GOk P G) {ops : Array Oper} : ∀ (l : List Oper) (i : Nat) {B : Nat → Prop} {new : Id → Prop} {s : St} {a : Act} {w : World} {φ : Hd} {β : Bl} {K : St → Option R},
    ops.toList.drop i = l → Rel P B new s a.tmps w φ β → OkOps Γ a.tmps.size new l → opsF G Γ ops l s K = some r →
    (∀ s' a' w', K s' = some r → After P B s a w β (leftL Γ new l) (asgOps l) s' a' w' → Q .normal a' w') → wpOps P ops Q (List.range' i l.length) a w := by
  intro l
  induction l with
  | nil =>
    intro i B new s a w φ β K hd Rl ho h hq
    exact hq s a w h ⟨B, φ, β, Rl.less fun _ h => h.1, Gr.refl _ _ _ _, rfl, rfl, Same.refl _ _⟩
  | cons o l ih =>
    intro i B new s a w φ β K hd Rl ho h hq
    have hi : ops[i]? = some o := by
      have := congrArg (fun l : List Oper => l[0]?) hd
      simp only [List.getElem?_drop, List.getElem?_cons_zero, Nat.add_zero] at this
      simpa using this
    have hd' : ops.toList.drop (i + 1) = l := by
      have := congrArg List.tail hd
      simpa [List.tail_drop] using this
    rw [List.length_cons, List.range'_succ]
    simp only [wpOps, hi]
    simp only [opsF] at h
    refine step_sound hP hG Rl (ho.new o (by simp)) h (Nxt.of (ho.low o (by simp)) fun v u a' w' B' φ' β' hk Rl' hg hsz hdf hsm => ?_)
    refine ih (i + 1) hd' Rl' (by rw [hsz]; exact ho.tail) hk fun s' a'' w'' hk' ⟨B'', φ'', β'', h1, h2, h3, h4, h5⟩ => hq s' a'' w'' hk' ⟨B'', φ'', β'', h1.less fun j hj => ⟨⟨hj.1, fun hm => hj.2 o (by simp) hm⟩, fun o' ho' => hj.2 o' (by simp [ho'])⟩, hg.trans h2, by rw [h3, hsz], by rw [h4, hdf], (hsm.mono fun t ht => List.mem_flatMap.2 ⟨o, by simp, ht⟩).trans (h5.mono fun t ht => by obtain ⟨o', h6, h7⟩ := List.mem_flatMap.1 ht; exact List.mem_flatMap.2 ⟨o', by simp [h6], h7⟩)⟩
end
end Go.PV
