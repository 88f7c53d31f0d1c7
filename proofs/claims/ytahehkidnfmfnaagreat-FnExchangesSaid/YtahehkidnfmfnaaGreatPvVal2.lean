/- Operations that give a value, continued. -/
import Derived.Test.YtahehkidnfmfnaaGreatPvVal
set_option linter.all false
namespace Go.PV
open Go

section
variable {P : Program} {Γ : Tab} {σ : Sto} {φ : Hd} {w : World} {B : Nat → Prop} {R : Type} {r : R}

theorem slice_len {e : TypeId} {t : Ty} {A : Option Addr} {n c : Nat} {xs : List t.T} (h : Rd P (.list e t) w B [.slice A n c] xs) : n = xs.length ∧ n ≤ c := by
  obtain ⟨A', c', he, hc, _⟩ := h
  injection he with he
  injection he with e1 e2 e3
  subst e2
  subst e3
  exact ⟨rfl, hc⟩

theorem lenV_rel {β : Bl} {σr : Sto} (O : Obs P σ σr φ β w B) (hσ : ∀ id o, σr id = some o → σ id = some o) {s : TypeId} {x : V} {vx : Value} {n : Int} (hx : VR P σ φ w B x vx) (h : lenV Γ σr s x = some n) :
    ∃ (A : Option Addr) (m c : Nat), vx = .slice A m c ∧ (m : Int) = n := by
  unfold lenV at h
  split at h
  · rename_i e t xs
    injection h with h
    obtain ⟨us, rfl, A, c, rfl, _, _⟩ := hx
    exact ⟨A, _, c, rfl, h⟩
  · split at h
    · injection h with h
      cases hx
      exact ⟨none, 0, 0, rfl, h⟩
    · cases h
  · rename_i id
    split at h
    · rename_i e t m xs hv ho
      injection h with h
      obtain ⟨hφ, A, n', c, rfl⟩ := hx
      obtain ⟨v, h1, h2⟩ := O.slice ho e
      rw [hφ] at h1
      injection h1 with h1
      subst h1
      exact ⟨A, n', c, rfl, by rw [(slice_len h2).1]; exact h⟩
    · cases h
  · rename_i id sz lo hi
    split at h
    · injection h with h
      obtain ⟨A, m, c, A2, _, h2, h3, _, _, _, _, rfl⟩ := hx
      exact ⟨_, _, _, rfl, by omega⟩
    · cases h
  · rename_i id i hv
    split at h
    · rename_i e0 e a xs hv' ho
      obtain ⟨hb, h2⟩ := cond_some h
      have := beq_eq hb
      subst this
      injection h2 with h2
      have hc := asC_rel (t := .list e a) (c := .el id i hv) (x := rd (.list e a) xs i) O hσ hx (by
        simp only [asC, ho, beq_self, cond_true]
        exact castT_self _)
      obtain ⟨us, rfl, A, c, rfl, _, _⟩ := hc
      exact ⟨A, _, c, rfl, h2⟩
    · cases h
  · cases h


theorem isList_und (hΓ : TabOk P Γ) {s : TypeId} (h : isList Γ s = true) : ∃ e t fs el i z, Γ s = some ⟨.list e t, fs, el⟩ ∧ TdI P Γ s ⟨.list e t, fs, el⟩ i z (.slice e) := by
  unfold isList at h
  split at h
  · rename_i e t fs el hs
    obtain ⟨i, z, u, I⟩ := hΓ _ _ hs
    obtain ⟨rfl, _⟩ := I.list e t rfl
    exact ⟨e, t, fs, el, i, z, hs, I⟩
  · cases h

theorem sim_len (hΓ : TabOk P Γ) {β : Bl} {σr : Sto} (O : Obs P σ σr φ β w B) (hσ : ∀ id o, σr id = some o → σ id = some o) {s ty : TypeId} {x : V} {vx : Value} {K : Kont R} (hx : VR P σ φ w B x vx) (h : lenF Γ σr s x K = some r) :
    Gives P σ φ w B (Builtin.len_ #[s] ty #[vx]) K r := by
  unfold lenF at h
  split at h
  · rename_i fs el b hs
    have := vr_str hx; subst this
    obtain ⟨i, z, u, I⟩ := hΓ _ _ hs
    have := I.str rfl
    subst this
    exact ⟨_, _, h, cr_int _ _, by simp [Builtin.len_, run_und I.under, goInt]⟩
  · obtain ⟨hl, h2⟩ := cond_some h
    obtain ⟨n, h3, hK⟩ := ob_some h2
    obtain ⟨A, m, c, rfl, rfl⟩ := lenV_rel O hσ hx h3
    obtain ⟨e, t, fs, el, i, z, hs, I⟩ := isList_und hΓ hl
    exact ⟨_, _, hK, cr_int _ _, by simp [Builtin.len_, run_und I.under, goInt]⟩

theorem sim_max {x y : V} {vx vy : Value} {ts : Array TypeId} {t : TypeId} {K : Kont R} (hx : VR P σ φ w B x vx) (hy : VR P σ φ w B y vy) (h : maxF x y K = some r) : Gives P σ φ w B (Builtin.max_ ts t #[vx, vy]) K r := by
  unfold maxF at h
  split at h
  · have := vr_int hx; subst this
    have := vr_int hy; subst this
    obtain ⟨_, hK⟩ := cond_some h
    exact ⟨_, _, hK, cr_int _ _, by simp [Builtin.max_, Builtin.max2]⟩
  · cases h
theorem sim_min {x y : V} {vx vy : Value} {ts : Array TypeId} {t : TypeId} {K : Kont R} (hx : VR P σ φ w B x vx) (hy : VR P σ φ w B y vy) (h : minF x y K = some r) : Gives P σ φ w B (Builtin.min_ ts t #[vx, vy]) K r := by
  unfold minF at h
  split at h
  · have := vr_int hx; subst this
    have := vr_int hy; subst this
    obtain ⟨_, hK⟩ := cond_some h
    exact ⟨_, _, hK, cr_int _ _, by simp [Builtin.min_, Builtin.min2]⟩
  · cases h

def BndR (P : Program) (σ : Sto) (φ : Hd) (w : World) (B : Nat → Prop) (o : Option V) (v : Option Value) : Prop :=
  match o, v with
  | none, none => True
  | some x, some y => VR P σ φ w B x y
  | _, _ => False

theorem bound_rel {o : Option V} {v : Option Value} {d n : Int} (h : BndR P σ φ w B o v) (hb : boundV d o = some n) : (v = none ∧ n = d) ∨ ∃ k, v = some (.int k n) := by
  cases o with
  | none =>
    cases v with
    | none => injection hb with hb; exact .inl ⟨rfl, hb.symm⟩
    | some y => exact False.elim h
  | some x =>
    cases v with
    | none => exact False.elim h
    | some y =>
      unfold boundV at hb
      split at hb
      · rename_i hx; cases hx
      · rename_i k m hx
        injection hx with hx
        subst hx
        injection hb with hb
        subst hb
        exact .inr ⟨k, by rw [vr_int (σ := σ) (φ := φ) h]⟩
      · cases hb

theorem run_bound {k : IntKind} {i : Int} {y : Nat} {code : BoundsCode} (h0 : 0 ≤ i) (h1 : i ≤ y) : (Instr.sliceBound (.int k i) y code).run P w = .ok i.toNat w := by
  simp [Instr.sliceBound, asIntOf, h0, h1]

theorem run_slice {s e : TypeId} {ie : TypeInfo} {A : Option Addr} {n c : Nat} {lo hi : Option Value} {l h : Int} (hu : P.underlying s = some (.slice e)) (hie : P.info? e = some ie)
    (hl : (lo = none ∧ l = 0) ∨ ∃ k, lo = some (.int k l)) (hh : (hi = none ∧ h = n) ∨ ∃ k, hi = some (.int k h)) (h0 : 0 ≤ l) (h1 : l ≤ h) (h2 : h ≤ n) (hc : n ≤ c) :
    (Instr.sliceAt s (.slice A n c) lo hi none).run P w = .ok (.slice (if c = l.toNat then A else A.map (·.add (l.toNat * ie.size))) (h - l).toNat (c - l.toNat)) w := by
  have e1 : h.toNat - l.toNat = (h - l).toNat := by omega
  have hb : (Instr.sliceBounds true n c lo hi none).run P w = .ok (l.toNat, h.toNat, c) w := by
    rcases hl with ⟨rfl, rfl⟩ | ⟨k, rfl⟩ <;> rcases hh with ⟨rfl, rfl⟩ | ⟨k', rfl⟩
    · simp [Instr.sliceBounds]
    · simp [Instr.sliceBounds, run_bound (P := P) (w := w) (k := k') (i := h) (y := c) (by omega) (by omega)]
    · simp [Instr.sliceBounds, run_bound (P := P) (w := w) (k := k) (i := l) (y := n) (by omega) (by omega)]
    · have e : (h.toNat : Int) = h := by omega
      simp [Instr.sliceBounds, run_bound (P := P) (w := w) (k := k') (i := h) (y := c) (by omega) (by omega), run_bound (P := P) (w := w) (k := k) (i := l) (y := h.toNat) (by omega) (by omega)]
  simp [Instr.sliceAt, run_und hu, Instr.slice, hb, run_size hie, e1]

theorem sim_slice (hΓ : TabOk P Γ) {β : Bl} {σr : Sto} (O : Obs P σ σr φ β w B) (hσ : ∀ id o, σr id = some o → σ id = some o) {s : TypeId} {x : V} {vx : Value} {lo hi mx : Option V} {vlo vhi vmx : Option Value} {K : Kont R} (hx : VR P σ φ w B x vx)
    (hlo : BndR P σ φ w B lo vlo) (hhi : BndR P σ φ w B hi vhi) (hmx : BndR P σ φ w B mx vmx) (h : sliceF Γ σr s x lo hi mx K = some r) : Gives P σ φ w B (Instr.sliceAt s vx vlo vhi vmx) K r := by
  unfold sliceF at h
  split at h
  · rename_i e t fs el hs
    have hm : vmx = none := by
      cases vmx with
      | none => rfl
      | some y => exact False.elim hmx
    subst hm
    obtain ⟨i, z, u, I⟩ := hΓ _ _ hs
    obtain ⟨rfl, _, d', h3, h4⟩ := I.list e t rfl
    obtain ⟨ie, ze, ude, Ie⟩ := hΓ _ _ h3
    split at h
    · rename_i e' t' xs
      obtain ⟨hte, h⟩ := cond_some h
      obtain ⟨l, hl, h5⟩ := ob_some h
      obtain ⟨h', hh, h6⟩ := ob_some h5
      obtain ⟨hb, hK⟩ := chk_some h6
      simp only [Bool.and_eq_true] at hb
      obtain ⟨⟨h7, h8⟩, h9⟩ := hb
      replace h7 := of_decide_eq_true h7
      replace h8 := of_decide_eq_true h8
      replace h9 := of_decide_eq_true h9
      obtain ⟨us, rfl, hr⟩ := hx
      have hr0 := hr
      obtain ⟨A, c, rfl, hc, _⟩ := hr
      have := tyb_eq hte
      refine ⟨_, _, hK, roV_rel (hr0.cut h7 h8 h9), ?_⟩
      have := run_slice (P := P) (w := w) (A := A) (c := c) I.under Ie.info (bound_rel hlo hl) (by simpa only [tLen] using bound_rel hhi hh) h7 h8 h9 hc
      rw [Ie.size, h4, ← tyb_eq hte] at this
      exact this
    · rename_i id
      split at h
      · rename_i e' t' m xs hv ho
        obtain ⟨l, hl, h5⟩ := ob_some h
        obtain ⟨h', hh, h6⟩ := ob_some h5
        obtain ⟨hte, h6⟩ := cond_some h6
        obtain ⟨hb, hK⟩ := chk_some h6
        simp only [Bool.and_eq_true] at hb
        obtain ⟨⟨h7, h8⟩, h9⟩ := hb
        replace h7 := of_decide_eq_true h7
        replace h8 := of_decide_eq_true h8
        replace h9 := of_decide_eq_true h9
        obtain ⟨hφ, A, n, c, rfl⟩ := hx
        obtain ⟨v, h1, h2⟩ := O.slice ho e'
        rw [hφ] at h1
        injection h1 with h1
        subst h1
        obtain ⟨hn, hc⟩ := slice_len h2
        have ht := tyb_eq (both_true.1 hte).2
        simp only [tLen] at h9
        rw [← hn] at h9
        refine ⟨_, _, hK, ⟨A, n, c, _, hφ, h7, h8, h9, hc, fun e t m xs hv hole hs => ?_, SubA.cut _ _ _ _, rfl⟩, ?_⟩
        · rw [hσ _ _ ho] at hs
          injection hs with hs
          injection hs with _ hs
          rw [hs]
        · have := run_slice (P := P) (w := w) (A := A) (c := c) I.under Ie.info (bound_rel hlo hl) (by
            have := bound_rel hhi hh
            simp only [tLen] at this
            rw [← hn] at this
            exact this) h7 h8 h9 hc
          rw [Ie.size, h4, ← ht] at this
          exact this
      · cases h
    · rename_i id sz l0 h0
      split at h
      · rename_i e' t' m xs hv ho
        obtain ⟨l, hl, h5⟩ := ob_some h
        obtain ⟨h', hh, h6⟩ := ob_some h5
        obtain ⟨hte, h6⟩ := cond_some h6
        obtain ⟨hb, hK⟩ := chk_some h6
        simp only [Bool.and_eq_true] at hb
        obtain ⟨⟨h7, h8⟩, h9⟩ := hb
        replace h7 := of_decide_eq_true h7
        replace h8 := of_decide_eq_true h8
        replace h9 := of_decide_eq_true h9
        obtain ⟨A, n, c, A', hφ, g0, g1, g2, g3, g4, g5, rfl⟩ := hx
        have ht := tyb_eq (both_true.1 hte).2
        have hsz := g4 _ _ _ _ _ _ (hσ _ _ ho)
        subst hsz
        have e1 : (l0 + l).toNat = l0.toNat + l.toNat := by omega
        have e2 : (l0 + h' - (l0 + l)) = h' - l := by omega
        have e3 : c - (l0 + l).toNat = c - l0.toNat - l.toNat := by omega
        refine ⟨_, _, hK, ⟨A, n, c, if c - l0.toNat = l.toNat then A' else A'.map (·.add (l.toNat * t'.n)), hφ, by omega, by omega, by omega, g3, g4, ?_, rfl⟩, ?_⟩
        · rw [e1]
          exact g5.part (by omega) (by omega)
        · have := run_slice (P := P) (w := w) (A := A') (n := (h0 - l0).toNat) (c := c - l0.toNat) I.under Ie.info (bound_rel hlo hl) (by
            have := bound_rel hhi hh
            rw [show (((h0 - l0).toNat : Nat) : Int) = h0 - l0 by omega]
            exact this) h7 h8 (by omega) (by omega)
          rw [Ie.size, h4, ← ht] at this
          rw [e2, e3]
          exact this
      · cases h
    · cases h
  · cases h


theorem roC_rel {t : Ty} {c : C} {v : Value} {x : t.T} (hc : CR P σ φ w B c v) (h : roC t c = some x) : ∃ us, v = t.mk us ∧ Rd P t w B us x := by
  cases c with
  | ro a y =>
    obtain ⟨us, rfl, hr⟩ := hc
    obtain ⟨e, rfl⟩ := castT_some h
    subst e
    exact ⟨us, rfl, hr⟩
  | nilsl =>
    cases hc
    cases t <;> simp only [roC] at h <;> first | (cases h; done) | skip
    injection h with h
    subst h
    exact ⟨[.slice none 0 0], rfl, none, 0, rfl, Nat.le_refl _, fun h => absurd h (by simp)⟩
  | _ => simp [roC] at h

theorem roCs_rel : ∀ {t : Ty} {cs : List C} {us : List Value} {x : t.T}, CsR P σ φ w B cs us → roCs t cs = some x → Rd P t w B us x := by
  have leaf : ∀ {t : Ty} {cs : List C} {us : List Value} {x : t.T}, t.agg = false → CsR P σ φ w B cs us → (∃ c, cs = [c] ∧ roC t c = some x) → Rd P t w B us x := by
    intro t cs us x ha hc ⟨c, e, h⟩
    subst e
    obtain ⟨v, rfl⟩ := List.length_eq_one_iff.1 (by simpa using hc.1)
    have h1 := hc.2.2 0 c v rfl rfl
    obtain ⟨us, hv, hr⟩ := roC_rel h1 h
    have hl := hr.len
    rw [n_one ha] at hl
    obtain ⟨u, rfl⟩ := List.length_eq_one_iff.1 hl
    rw [mk_one ha] at hv
    subst hv
    exact hr
  intro t
  induction t with
  | unit =>
    intro cs us x hc h
    cases cs with
    | nil =>
      have : us = [] := List.eq_nil_of_length_eq_zero (by simpa using hc.1)
      subst this
      rfl
    | cons c r => simp [roCs] at h
  | pair a b iha ihb =>
    intro cs us x hc h
    simp only [roCs] at h
    obtain ⟨y, h1, h2⟩ := ob_some h
    obtain ⟨z, h3, h4⟩ := ob_some h2
    injection h4 with h4
    subst h4
    have := (iha (hc.take a.n) h1).shut (ihb (hc.drop a.n) h3)
    rwa [List.take_append_drop] at this
  | _ =>
    intro cs us x hc h
    refine leaf rfl hc ?_
    match cs, h with
    | [], h => simp [roCs] at h
    | [c], h => exact ⟨c, rfl, by simpa only [roCs] using h⟩
    | c :: d :: r, h => simp [roCs] at h

def VsR (P : Program) (σ : Sto) (φ : Hd) (w : World) (B : Nat → Prop) : List V → List Value → Prop
  | [], [] => True
  | v :: vs, u :: us => VR P σ φ w B v u ∧ VsR P σ φ w B vs us
  | _, _ => False

theorem capMix_rel : ∀ {vs : List V} {us : List Value} {ids : List Cap}, VsR P σ φ w B vs us → capMix vs = some ids →
    us.length = ids.length ∧ (∀ u ∈ us, u.oneCell' = true) ∧ ∀ (v : Value) (i : Nat) c u, ids[i]? = some c → us[i]? = some u → CapR P φ w B v c u := by
  intro vs
  induction vs with
  | nil =>
    intro us ids h hc
    cases us with
    | nil => injection hc with hc; subst hc; exact ⟨rfl, by simp, fun v i c u h => by simp at h⟩
    | cons u us => exact False.elim h
  | cons v vs ih =>
    intro us ids h hc
    cases us with
    | nil => exact False.elim h
    | cons u us =>
      have fin : ∀ {l : List Cap} {c : Cap}, capMix vs = some l → u.oneCell' = true → (∀ v, CapR P φ w B v c u) → (u :: us).length = (c :: l).length ∧ (∀ u' ∈ u :: us, u'.oneCell' = true) ∧
          ∀ (v : Value) (i : Nat) c' u', (c :: l)[i]? = some c' → (u :: us)[i]? = some u' → CapR P φ w B v c' u' := fun {l c} h1 h2 h3 => by
        obtain ⟨q1, q2, q3⟩ := ih h.2 h1
        refine ⟨by simp [q1], fun u' hu => ?_, fun v' i c' u' hc' hu' => ?_⟩
        · rcases List.mem_cons.1 hu with rfl | hu
          · exact h2
          · exact q2 _ hu
        · cases i with
          | zero =>
            simp only [List.getElem?_cons_zero, Option.some.injEq] at hc' hu'
            subst hc' hu'
            exact h3 _
          | succ i => exact q3 _ i c' u' (by simpa using hc') (by simpa using hu')
      unfold capMix at hc
      split at hc
      · rename_i e; cases e
      · rename_i id r e
        injection e with e1 e2
        subst e1
        subst e2
        obtain ⟨l, h1, h2⟩ := ob_some hc
        injection h2 with h2
        subst h2
        obtain ⟨g, h5, rfl⟩ := h.1
        exact fin h1 rfl fun v => ⟨h5, g, rfl⟩
      · rename_i t x r e
        injection e with e1 e2
        subst e1
        subst e2
        obtain ⟨l, h1, h2⟩ := ob_some hc
        injection h2 with h2
        subst h2
        obtain ⟨us', rfl, h5⟩ := h.1
        have h6 := h5
        obtain ⟨g, us2, rfl, _⟩ := h5
        exact fin h1 rfl fun v => h6
      · cases hc

theorem vr_cr {c : C} {v : Value} (h : VR P σ φ w B (.one c) v) : CR P σ φ w B c v := h
theorem vr_mk {v : V} {val : Value} {t : Ty} (h : VR P σ φ w B v val) {cs : List C} (hc : v.cells = some cs) (ha : agb t.agg v.isAgg = true) (hl : cs.length = t.n) : val = t.mk val.cells.toList := by
  have ha := agb_eq ha
  cases hta : t.agg with
  | true =>
    rw [hta] at ha
    rw [mk_agg hta]
    cases v with
    | tup l => simp [V.cells] at hc
    | agg ds => obtain ⟨us, rfl, _⟩ := h; simp [Value.cells]
    | one c =>
      cases c with
      | ro a x =>
        obtain ⟨us, rfl, hr⟩ := h
        have : a.agg = true := ha.symm
        rw [mk_agg this]
        simp [Value.cells]
      | _ => simp [V.isAgg] at ha
  | false =>
    rw [hta] at ha
    have hr := cells_rel h hc
    have hlen := hr.1
    rw [hl, n_one hta] at hlen
    obtain ⟨u, hu⟩ := List.length_eq_one_iff.1 hlen
    rw [hu, mk_one hta]
    have : val.oneCell' = true := by
      cases v with
      | tup l => simp [V.cells] at hc
      | agg ds => simp [V.isAgg] at ha
      | one c =>
        cases c with
        | ro a x =>
          obtain ⟨us, rfl, hr2⟩ := h
          have h1 : a.agg = false := ha.symm
          have hl2 := hr2.len
          rw [n_one h1] at hl2
          obtain ⟨u2, rfl⟩ := List.length_eq_one_iff.1 hl2
          rw [mk_one h1]
          exact hr2.one u2 (by simp)
        | dead => simp [V.cells] at hc
        | undef => simp [V.cells] at hc
        | _ =>
          exact cr_one (vr_cr h) (by simp) (by simp) (by simp)
    have e := one_cells this
    rw [e] at hu
    simpa using hu

theorem roCs_len {t : Ty} {cs : List C} {us : List Value} {x : t.T} (hc : CsR P σ φ w B cs us) (h : roCs t cs = some x) : cs.length = t.n := by
  rw [← hc.1]
  exact (roCs_rel hc h).len

theorem sim_func {G : GTab} {fn : Fn} {first captured : List V} {vf vc : List Value} {K : Kont R} (hf : VsR P σ φ w B first vf) (hc : VsR P σ φ w B captured vc) (h : funcF G fn first captured K = some r) :
    Gives P σ φ w B (Instr.makeFunc fn vf.toArray vc.toArray) K r := by
  unfold funcF at h
  split at h
  · rename_i f
    obtain ⟨ids, h1, hK⟩ := ob_some h
    obtain ⟨h2, h3, h4⟩ := capMix_rel hc h1
    cases vf with
    | nil => exact ⟨_, _, hK, ⟨vc, rfl, h2, h3, h4 _⟩, rfl⟩
    | cons u us => exact False.elim hf
  · rename_i f v
    split at h
    · rename_i m t ps rs g hg
      obtain ⟨cs, h1, h2⟩ := ob_some h
      obtain ⟨ha, h3⟩ := cond_some h2
      obtain ⟨x, h4, hK⟩ := ob_some h3
      cases vf with
      | nil => exact False.elim hf
      | cons u us =>
        cases us with
        | cons u' us => exact False.elim hf.2
        | nil =>
          cases vc with
          | cons u' us => exact False.elim hc
          | nil =>
            have hr := cells_rel hf.1 h1
            have hx := roCs_rel hr h4
            have := vr_mk hf.1 h1 ha (roCs_len hr h4)
            refine ⟨_, .func (.func f) #[u] #[], hK, ⟨_, ?_, hx⟩, rfl⟩
            rw [← this]
    · cases h
  · cases h


theorem eqGuard_other {op : BinOp} {τ : TypeId} {x y : Operand} {a b : Value} (h : op ≠ .eql ∧ op ≠ .neq) : (eqGuard op τ x y a b).run P w = .ok () w := by
  cases op <;> first | rfl | exact absurd rfl h.1 | exact absurd rfl h.2

theorem run_eq_pair {τ e : TypeId} {ie : TypeInfo} {a b c d : Int} (hu : P.underlying τ = some (.array 2 e)) (he : P.underlying e = some (.int .i64)) (hi : P.info? e = some ie) (hs : ie.size = 1) :
    (Op.equal τ (.agg #[.int .i64 a, .int .i64 b]) (.agg #[.int .i64 c, .int .i64 d])).run P w = .ok (a == c && b == d) w := by
  have hag : (isAgg e).run P w = .ok false w := by simpa [aggDesc] using run_agg (P := P) (w := w) he
  have hp : ∀ (x y : Int) (j : Nat), j < 2 → (part e #[.int .i64 x, .int .i64 y] j).run P w = .ok (if j = 0 then .int .i64 x else .int .i64 y) w := by
    intro x y j hj
    simp only [part, Sem.run_bind, hag, Result.andThen_ok]
    rcases (by omega : j = 0 ∨ j = 1) with rfl | rfl <;> simp
  have heq : ∀ (n : Nat) (x y : Int), (Op.equalIn (n + 1) e (.int .i64 x) (.int .i64 y)).run P w = .ok (x == y) w := by
    intro n x y
    simp [Op.equalIn, run_und he]
  have main : ∀ n, (Op.equalIn (n + 2) τ (.agg #[.int .i64 a, .int .i64 b]) (.agg #[.int .i64 c, .int .i64 d])).run P w = .ok (a == c && b == d) w := by
    intro n
    rw [Op.equalIn]
    simp only [Sem.run_bind, run_und hu, Result.andThen_ok, run_size hi, hs, Std.Legacy.Range.forIn_eq_forIn_range', Std.Legacy.Range.size]
    simp [List.range', hp, heq]
    by_cases h1 : a = c <;> by_cases h2 : b = d <;> simp [h1, h2]
  exact main 9998


theorem eqGuard_pair {op : BinOp} {τ e : TypeId} {x y : Operand} {a b : Array Value} (hu : P.underlying τ = some (.array 2 e)) (he : P.underlying e = some (.int .i64)) :
    (eqGuard op τ x y (.agg a) (.agg b)).run P w = .ok () w := by
  have hd : ∃ n, P.depth = n + 2 := ⟨_, rfl⟩
  obtain ⟨n, hn⟩ := hd
  have h2 : P.eqGuardType (n + 2) τ = false := by simp [Program.eqGuardType, hu, he]
  unfold eqGuard
  cases op <;> simp [hn, h2]

theorem pair_vals {t : Ty} {us : List Value} {a : (Ty.pair (.int .i64) (.int .i64)).T} (h : Rd P (.pair (.int .i64) (.int .i64)) w B us a) : us = [.int .i64 a.1, .int .i64 a.2] := by
  obtain ⟨u, v, rfl, h1, h2⟩ := h
  cases h1
  cases h2
  rfl

theorem pairV_rel {x : V} {vx : Value} {a : Int × Int} (hx : VR P σ φ w B x vx) (h : pairV x = some a) : vx = .agg #[.int .i64 a.1, .int .i64 a.2] := by
  unfold pairV at h
  split at h
  · injection h with h
    subst h
    obtain ⟨us, rfl, hr⟩ := hx
    have e := pair_vals (t := .bool) hr
    subst e
    rfl
  · rename_i p q
    injection h with h
    subst h
    obtain ⟨us, rfl, hl, _, hc⟩ := hx
    match us, hl with
    | [u, v], _ =>
      have h1 := ro_int (hc 0 _ u rfl rfl)
      have h2 := ro_int (hc 1 _ v rfl rfl)
      subst h1 h2
      rfl
  · cases h

theorem sim_bin (hΓ : TabOk P Γ) {op : BinOp} {τ : TypeId} {xo yo : Operand} {x y : V} {vx vy : Value} {K : Kont R} (hx : VR P σ φ w B x vx) (hy : VR P σ φ w B y vy) (h : binF Γ op τ x y K = some r) :
    Gives P σ φ w B (do eqGuard op τ xo yo vx vy; binOp op τ vx vy) K r := by
  unfold binF at h
  split at h
  · rename_i k a k' b
    have := vr_int hx; subst this
    have := vr_int hy; subst this
    split at h
    · obtain ⟨h0, hK⟩ := chk_some h
      have h0 := of_decide_eq_true h0
      have : ¬ (b : Int) < 0 := Int.not_lt.2 h0
      exact ⟨_, _, hK, cr_int _ _, by simp [eqGuard_other, binOp, Op.shift, this, shlI]⟩
    · obtain ⟨h0, hK⟩ := chk_some h
      have h0 := of_decide_eq_true h0
      have : ¬ (b : Int) < 0 := Int.not_lt.2 h0
      exact ⟨_, _, hK, cr_int _ _, by simp [eqGuard_other, binOp, Op.shift, this, shrI]⟩
    · rename_i h1 h2
      obtain ⟨hk, hK⟩ := cond_some h
      have := kb_eq hk
      subst this
      obtain ⟨v, val, h3, h4, h5⟩ := sim_int (P := P) (σ := σ) (φ := φ) (w := w) (B := B) (τ := τ) ⟨h1, h2⟩ hK
      exact ⟨v, val, h3, h4, by simp [eqGuard_int, h5]⟩
  · rename_i a b
    have := vr_bool hx; subst this
    have := vr_bool hy; subst this
    split at h
    · rename_i fs el hs
      obtain ⟨i, z, u, I⟩ := hΓ _ _ hs
      have := I.bool rfl
      subst this
      have heq : (Op.equal τ (.bool a) (.bool b)).run P w = .ok (a == b) w := by
        have main : ∀ n, (Op.equalIn (n + 1) τ (.bool a) (.bool b)).run P w = .ok (a == b) w := by
          intro n
          simp [Op.equalIn, run_und I.under]
        exact main 9999
      split at h
      · exact ⟨_, _, h, cr_bool _, by simp [eqGuard_bool, binOp, heq]⟩
      · exact ⟨_, _, h, cr_bool _, by simp [eqGuard_bool, binOp, heq]⟩
      · cases h
    · cases h
  · split at h
    · rename_i a b ha hb
      have e1 := pairV_rel hx ha
      have e2 := pairV_rel hy hb
      subst e1
      subst e2
      split at h
      · rename_i fs e hs
        obtain ⟨i, z, u, I⟩ := hΓ _ _ hs
        obtain ⟨rfl, ⟨d', h3, h4⟩, _⟩ := I.array rfl _ _ _ rfl
        obtain ⟨ie, ze, ude, Ie⟩ := hΓ _ _ h3
        have hue := Ie.int _ h4
        subst hue
        have hsz : ie.size = 1 := by rw [Ie.size, h4]; rfl
        have heq := run_eq_pair (P := P) (w := w) (a := a.1) (b := a.2) (c := b.1) (d := b.2) I.under Ie.under Ie.info hsz
        have e2 : ∀ p q : Int × Int, (ieq p.1 q.1 && ieq p.2 q.2) = (p.1 == q.1 && p.2 == q.2) := fun _ _ => rfl
        split at h
        · refine ⟨_, _, h, cr_bool _, ?_⟩
          rw [e2]
          simp [eqGuard_pair I.under Ie.under, binOp, heq]
        · refine ⟨_, _, h, cr_bool _, ?_⟩
          rw [e2]
          simp [eqGuard_pair I.under Ie.under, binOp, heq]
        · cases h
      · cases h
    · cases h

end
end Go.PV
