/- A state seen through a shape: objects are numbered anew. -/
import Derived.Test.YtahehkidnfmfnaaGreatPvSeq
set_option linter.all false
namespace Go.PV
open Go

def Ren.Le (ρ ρ' : Ren) : Prop := ∀ n i, ρ.find n = some i → ρ'.find n = some i
def Ren.Wf (ρ : Ren) : Prop := ∀ n m i, ρ.find n = some (some i) → ρ.find m = some (some i) → n = m
theorem Ren.Le.refl (ρ : Ren) : ρ.Le ρ := fun _ _ h => h
theorem Ren.Le.trans {a b c : Ren} (h : a.Le b) (h' : b.Le c) : a.Le c := fun n i q => h' n i (h n i q)

theorem Ren.find_append : ∀ (ρ : Ren) (n m : Nat) (o : Option Id), Ren.find (ρ ++ [(n, o)]) m = match ρ.find m with
    | some i => some i
    | none => if n = m then some o else none := by
  intro ρ
  induction ρ with
  | nil =>
    intro n m o
    show (cond (Nat.beq n m) (some o) none) = _
    by_cases h : n = m
    · subst h; simp [Ren.find]
    · rw [beq_ne h]; simp [Ren.find, h]
  | cons p ρ ih =>
    intro n m o
    show cond (Nat.beq p.1 m) (some p.2) (Ren.find (ρ ++ [(n, o)]) m) = _
    rw [ih]
    show _ = (match cond (Nat.beq p.1 m) (some p.2) (Ren.find ρ m) with
      | some i => some i
      | none => if n = m then some o else none)
    cases Nat.beq p.1 m <;> rfl

theorem Ren.has_find : ∀ (ρ : Ren) (m : Nat) (i : Id), ρ.find m = some (some i) → ρ.has i = true := by
  intro ρ
  induction ρ with
  | nil => intro m i h; cases h
  | cons p ρ ih =>
    intro m i h
    obtain ⟨n, o⟩ := p
    unfold Ren.find at h
    unfold Ren.has
    cases hb : Nat.beq n m with
    | true =>
      rw [hb] at h
      simp only [cond_true, Option.some.injEq] at h
      subst h
      simp [beq_self]
    | false =>
      rw [hb] at h
      have := ih m i h
      rw [this]
      cases o <;> simp

theorem Ren.add_spec {ρ ρ' : Ren} {n : Nat} {i : Id} (h : ρ.add n i = some ρ') (hw : ρ.Wf) : ρ.Le ρ' ∧ ρ'.Wf ∧ ρ'.find n = some (some i) := by
  unfold Ren.add at h
  split at h
  · rename_i j hj
    obtain ⟨hb, h⟩ := cond_some h
    injection h with h
    subst h
    have := beq_eq hb
    subst this
    exact ⟨Ren.Le.refl _, hw, hj⟩
  · cases h
  · rename_i hn
    cases hh : ρ.has i with
    | true => rw [hh] at h; cases h
    | false =>
      rw [hh] at h
      injection h with h
      subst h
      have hno : ∀ m, ρ.find m ≠ some (some i) := fun m hm => by rw [Ren.has_find ρ m i hm] at hh; cases hh
      refine ⟨fun m o hm => by rw [Ren.find_append, hm], fun a b j ha hb => ?_, by rw [Ren.find_append, hn]; simp⟩
      rw [Ren.find_append] at ha hb
      cases qa : ρ.find a with
      | some oa =>
        rw [qa] at ha
        simp only at ha
        cases qb : ρ.find b with
        | some ob => rw [qb] at hb; simp only at hb; exact hw a b j (by rw [qa]; exact ha) (by rw [qb]; exact hb)
        | none =>
          rw [qb] at hb
          simp only at hb
          split at hb
          · injection hb with hb; injection hb with hb; subst hb; injection ha with ha; subst ha; exact absurd qa (hno a)
          · cases hb
      | none =>
        rw [qa] at ha
        simp only at ha
        split at ha
        · injection ha with ha
          injection ha with ha
          subst ha
          cases qb : ρ.find b with
          | some ob => rw [qb] at hb; simp only at hb; injection hb with hb; subst hb; exact absurd qb (hno b)
          | none =>
            rw [qb] at hb
            simp only at hb
            split at hb
            · rename_i e1 e2; exact e1.symm.trans e2
            · cases hb
        · cases ha

theorem Ren.nil_spec {ρ ρ' : Ren} {n : Nat} (h : ρ.nil n = some ρ') (hw : ρ.Wf) : ρ.Le ρ' ∧ ρ'.Wf ∧ ρ'.find n = some none := by
  unfold Ren.nil at h
  split at h
  · cases h
  · rename_i hn
    injection h with h
    subst h
    refine ⟨fun m o hm => by rw [Ren.find_append, hm], fun a b j ha hb => ?_, by rw [Ren.find_append, hn]; simp⟩
    rw [Ren.find_append] at ha hb
    cases qa : ρ.find a with
    | some oa =>
      rw [qa] at ha
      cases qb : ρ.find b with
      | some ob => rw [qb] at hb; exact hw a b j (by rw [qa]; exact ha) (by rw [qb]; exact hb)
      | none =>
        rw [qb] at hb
        simp only at hb
        split at hb
        · injection hb with hb; cases hb
        · cases hb
    | none =>
      rw [qa] at ha
      simp only at ha
      split at ha
      · injection ha with ha; cases ha
      · cases ha

section
variable {P : Program} {B : Nat → Prop} {new : Id → Prop} {s : St} {tmps : Array Value} {w : World} {φ : Hd} {β : Bl}

theorem viewCap_le {c : Cap} {ρ ρ' : Ren} : ∀ {s : CapS} {x : s.T}, viewCap s c ρ = some (x, ρ') → ρ.Wf → ρ.Le ρ' ∧ ρ'.Wf := by
  intro s x h hw
  unfold viewCap at h
  split at h
  · obtain ⟨y, h1, h⟩ := ob_some h
    injection h with h; injection h with _ h; subst h
    exact ⟨(Ren.add_spec h1 hw).1, (Ren.add_spec h1 hw).2.1⟩
  · obtain ⟨y, h1, h⟩ := ob_some h
    injection h with h; injection h with _ h; subst h; exact ⟨Ren.Le.refl _, hw⟩
  · injection h with h; injection h with _ h; subst h; exact ⟨Ren.Le.refl _, hw⟩
  · cases h
theorem viewCaps_le : ∀ {l : List CapS} {cs : List Cap} {ρ ρ' : Ren} {x : CapsT l}, viewCaps l cs ρ = some (x, ρ') → ρ.Wf → ρ.Le ρ' ∧ ρ'.Wf := by
  intro l
  induction l with
  | nil =>
    intro cs ρ ρ' x h hw
    cases cs with
    | nil => injection h with h; injection h with _ h; subst h; exact ⟨Ren.Le.refl _, hw⟩
    | cons c cs => cases h
  | cons t l ih =>
    intro cs ρ ρ' x h hw
    cases cs with
    | nil => cases h
    | cons c cs =>
      obtain ⟨p, h1, h⟩ := ob_some (show ob (viewCap t c ρ) _ = _ from h)
      obtain ⟨q, h2, h⟩ := ob_some h
      injection h with h; injection h with _ h; subst h
      obtain ⟨a1, a2⟩ := viewCap_le (x := p.1) (ρ' := p.2) h1 hw
      obtain ⟨b1, b2⟩ := ih (x := q.1) (ρ' := q.2) h2 a2
      exact ⟨a1.trans b1, b2⟩

theorem viewC_le {σ : Sto} {c : C} {ρ ρ' : Ren} : ∀ {s : CS} {x : s.T}, viewC σ s c ρ = some (x, ρ') → ρ.Wf → ρ.Le ρ' ∧ ρ'.Wf := by
  intro s x h hw
  unfold viewC at h
  split at h
  all_goals first
    | (cases h; done)
    | (injection h with h; injection h with _ h; subst h; exact ⟨Ren.Le.refl _, hw⟩)
    | skip
  · obtain ⟨y, h1, h⟩ := ob_some h
    injection h with h; injection h with _ h; subst h; exact ⟨Ren.Le.refl _, hw⟩
  · obtain ⟨y, h1, h⟩ := ob_some h
    injection h with h; injection h with _ h; subst h
    exact ⟨(Ren.add_spec h1 hw).1, (Ren.add_spec h1 hw).2.1⟩
  · obtain ⟨y, h1, h⟩ := ob_some h
    injection h with h; injection h with _ h; subst h
    exact ⟨(Ren.nil_spec h1 hw).1, (Ren.nil_spec h1 hw).2.1⟩
  · split at h
    · obtain ⟨_, h⟩ := cond_some h
      obtain ⟨y, h1, h⟩ := ob_some h
      injection h with h; injection h with _ h; subst h
      exact ⟨(Ren.add_spec h1 hw).1, (Ren.add_spec h1 hw).2.1⟩
    · cases h
  · obtain ⟨_, h⟩ := cond_some h
    obtain ⟨y, h1, h⟩ := ob_some h
    injection h with h; injection h with _ h; subst h
    exact ⟨(Ren.add_spec h1 hw).1, (Ren.add_spec h1 hw).2.1⟩
  · split at h
    · obtain ⟨_, h⟩ := cond_some h
      injection h with h; injection h with _ h; subst h; exact ⟨Ren.Le.refl _, hw⟩
    · cases h
  · obtain ⟨_, h⟩ := cond_some h
    obtain ⟨y, h1, h⟩ := ob_some h
    injection h with h; injection h with _ h; subst h
    exact ⟨(Ren.add_spec h1 hw).1, (Ren.add_spec h1 hw).2.1⟩
  · split at h
    · obtain ⟨_, h⟩ := cond_some h
      obtain ⟨y, h1, h⟩ := ob_some h
      injection h with h; injection h with _ h; subst h
      exact ⟨(Ren.add_spec h1 hw).1, (Ren.add_spec h1 hw).2.1⟩
    · cases h
  · obtain ⟨_, h⟩ := cond_some h
    exact viewCaps_le h hw
  · obtain ⟨_, h⟩ := cond_some h
    exact viewCaps_le h hw
  · obtain ⟨y, h1, h⟩ := ob_some h
    injection h with h; injection h with _ h; subst h
    exact ⟨(Ren.add_spec h1 hw).1, (Ren.add_spec h1 hw).2.1⟩

theorem viewCs_le {σ : Sto} : ∀ {l : List CS} {cs : List C} {ρ ρ' : Ren} {x : CsT l}, viewCs σ l cs ρ = some (x, ρ') → ρ.Wf → ρ.Le ρ' ∧ ρ'.Wf := by
  intro l
  induction l with
  | nil =>
    intro cs ρ ρ' x h hw
    cases cs with
    | nil => injection h with h; injection h with _ h; subst h; exact ⟨Ren.Le.refl _, hw⟩
    | cons c cs => cases h
  | cons t l ih =>
    intro cs ρ ρ' x h hw
    cases cs with
    | nil => cases h
    | cons c cs =>
      obtain ⟨p, h1, h⟩ := ob_some (show ob (viewC σ t c ρ) _ = _ from h)
      obtain ⟨q, h2, h⟩ := ob_some h
      injection h with h; injection h with _ h; subst h
      obtain ⟨a1, a2⟩ := viewC_le (x := p.1) (ρ' := p.2) h1 hw
      obtain ⟨b1, b2⟩ := ih (x := q.1) (ρ' := q.2) h2 a2
      exact ⟨a1.trans b1, b2⟩

theorem viewV_le {σ : Sto} {v : V} {ρ ρ' : Ren} : ∀ {s : VS} {x : s.T}, viewV σ s v ρ = some (x, ρ') → ρ.Wf → ρ.Le ρ' ∧ ρ'.Wf := by
  intro s x h hw
  unfold viewV at h
  split at h
  · exact viewC_le h hw
  · obtain ⟨_, h⟩ := cond_some h
    obtain ⟨y, h1, h⟩ := ob_some h
    injection h with h; injection h with _ h; subst h; exact ⟨Ren.Le.refl _, hw⟩
  · injection h with h; injection h with _ h; subst h; exact ⟨Ren.Le.refl _, hw⟩
  · exact viewCs_le h hw
  · cases h

theorem viewE_le {σ : Sto} {e : Env} : ∀ {l : List (Nat × VS)} {ρ ρ' : Ren} {x : EnvT l}, viewE σ e l ρ = some (x, ρ') → ρ.Wf → ρ.Le ρ' ∧ ρ'.Wf := by
  intro l
  induction l with
  | nil => intro ρ ρ' x h hw; injection h with h; injection h with _ h; subst h; exact ⟨Ren.Le.refl _, hw⟩
  | cons p l ih =>
    intro ρ ρ' x h hw
    obtain ⟨t, v⟩ := p
    obtain ⟨p, h1, h⟩ := ob_some (show ob (viewV σ v (e t) ρ) _ = _ from h)
    obtain ⟨q, h2, h⟩ := ob_some h
    injection h with h; injection h with _ h; subst h
    obtain ⟨a1, a2⟩ := viewV_le (x := p.1) (ρ' := p.2) h1 hw
    obtain ⟨b1, b2⟩ := ih (x := q.1) (ρ' := q.2) h2 a2
    exact ⟨a1.trans b1, b2⟩

theorem viewO_le {σ : Sto} {o : PObj} {ρ ρ' : Ren} : ∀ {s : OS} {x : s.T}, viewO σ s o ρ = some (x, ρ') → ρ.Wf → ρ.Le ρ' ∧ ρ'.Wf := by
  intro s x h hw
  unfold viewO at h
  split at h
  · rename_i e t m e' t' m' xs hv
    cases hb : mob m m' with
    | true =>
      rw [hb] at h
      obtain ⟨_, h⟩ := cond_some (show cond _ _ none = _ from h)
      obtain ⟨y, h1, h⟩ := ob_some h
      injection h with h; injection h with _ h; subst h; exact ⟨Ren.Le.refl _, hw⟩
    | false =>
      rw [hb] at h
      obtain ⟨_, h⟩ := cond_some (show cond _ _ none = _ from h)
      split at h
      · obtain ⟨_, h⟩ := cond_some h
        injection h with h; injection h with _ h; subst h; exact ⟨Ren.Le.refl _, hw⟩
      · cases h
  · exact viewCs_le h hw
  · obtain ⟨y, h1, h⟩ := ob_some h
    injection h with h; injection h with _ h; subst h; exact ⟨Ren.Le.refl _, hw⟩
  · obtain ⟨_, h⟩ := cond_some h
    injection h with h; injection h with _ h; subst h; exact ⟨Ren.Le.refl _, hw⟩
  · injection h with h; injection h with _ h; subst h; exact ⟨Ren.Le.refl _, hw⟩
  · cases h

theorem lt_len (k n l : Nat) (h : k < n + 1 + l) : k < n + (l + 1) := by omega

def ObjAt (σ : Sto) (ρf : Ren) (s : OS) (x : s.T) (n : Nat) : Prop :=
  (∃ i o ρ ρ', ρf.find n = some (some i) ∧ σ i = some o ∧ ρ'.Le ρf ∧ ρ.Wf ∧ viewO σ s o ρ = some (x, ρ')) ∨
  (ρf.find n = some none ∧ ∃ e t m, s = .sl e t m ∧ (m = .deep → t.isList = true) ∧ HEq x ([] : List t.T))

theorem viewS_spec {σ : Sto} : ∀ {l : List OS} {n : Nat} {ρ ρ' : Ren} {x : StoT l}, viewS σ l n ρ = some (x, ρ') → ρ.Wf → ρ.Le ρ' ∧ ρ'.Wf ∧
    ∀ ρf : Ren, ρ'.Le ρf → ∀ k o, fillS l n x k = some o → ∃ (s : OS) (y : s.T), o = fillO s y ∧ ObjAt σ ρf s y k ∧ n ≤ k ∧ k < n + l.length := by
  intro l
  induction l with
  | nil => intro n ρ ρ' x h hw; injection h with h; injection h with _ h; subst h; exact ⟨Ren.Le.refl _, hw, fun _ _ k o hk => by cases hk⟩
  | cons t l ih =>
    intro n ρ ρ' x h hw
    unfold viewS at h
    split at h
    · rename_i i hf
      split at h
      · rename_i o ho
        obtain ⟨p, h1, h⟩ := ob_some h
        obtain ⟨q, h2, h⟩ := ob_some h
        injection h with h'
        injection h' with hx hρ
        subst hρ
        subst hx
        obtain ⟨a1, a2⟩ := viewO_le (x := p.1) (ρ' := p.2) h1 hw
        obtain ⟨b1, b2, b3⟩ := ih (x := q.1) (ρ' := q.2) h2 a2
        refine ⟨a1.trans b1, b2, fun ρf hl k o' hk => ?_⟩
        simp only [fillS] at hk
        cases hb : Nat.beq k n with
        | true =>
          rw [hb] at hk
          have := beq_eq hb
          subst this
          injection hk with hk
          refine ⟨t, p.1, hk.symm, .inl ⟨i, o, ρ, p.2, (a1.trans (b1.trans hl)) _ _ hf, ho, b1.trans hl, hw, h1⟩, Nat.le_refl _, by simp⟩
        | false =>
          rw [hb] at hk
          obtain ⟨s, y, c1, c2, c3, c4⟩ := b3 ρf hl k o' hk
          exact ⟨s, y, c1, c2, Nat.le_of_succ_le c3, by rw [List.length_cons]; exact lt_len _ _ _ c4⟩
      · cases h
    · rename_i hf
      split at h
      · rename_i e u m
        obtain ⟨hm, h⟩ := cond_some h
        obtain ⟨q, h2, h⟩ := ob_some h
        injection h with h'
        injection h' with hx hρ
        subst hρ
        subst hx
        obtain ⟨b1, b2, b3⟩ := ih (x := q.1) (ρ' := q.2) h2 hw
        refine ⟨b1, b2, fun ρf hl k o' hk => ?_⟩
        simp only [fillS] at hk
        cases hb : Nat.beq k n with
        | true =>
          rw [hb] at hk
          have := beq_eq hb
          subst this
          injection hk with hk
          refine ⟨.sl e u m, ([] : List u.T), hk.symm, .inr ⟨(b1.trans hl) _ _ hf, e, u, m, rfl, fun hd => ?_, HEq.rfl⟩, Nat.le_refl _, by simp⟩
          subst hd
          cases hq : u.isList with
          | true => rfl
          | false => rw [hq] at hm; cases hm
        | false =>
          rw [hb] at hk
          obtain ⟨s, y, c1, c2, c3, c4⟩ := b3 ρf hl k o' hk
          exact ⟨s, y, c1, c2, Nat.le_of_succ_le c3, by rw [List.length_cons]; exact lt_len _ _ _ c4⟩
      · cases h
    · cases h

def phiV (φ : Hd) (ρ : Ren) : Hd := fun n => match ρ.find n with
  | some (some i) => φ i
  | some none => some (.slice none 0 0)
  | none => none
def betaV (β : Bl) (ρ : Ren) : Bl := fun n => match ρ.find n with
  | some (some i) => β i
  | _ => []

theorem viewCap_rel {ρ ρ' ρf : Ren} (hw : ρ.Wf) (hl : ρ'.Le ρf) {self : Value} : ∀ {s : CapS} {x : s.T} {c : Cap} {v : Value}, viewCap s c ρ = some (x, ρ') → CapR P φ w B self c v → CapR P (phiV φ ρf) w B self (fillCap s x) v := by
  intro s x c v h hc
  unfold viewCap at h
  split at h
  · obtain ⟨y, h1, h⟩ := ob_some h
    injection h with h
    injection h with hx hρ
    subst hρ
    have hf := hl _ _ (Ren.add_spec h1 hw).2.2
    exact ⟨by simpa [phiV, hf] using hc.1, hc.2⟩
  · obtain ⟨y, h1, h⟩ := ob_some h
    injection h with h
    injection h with hx _
    subst hx
    obtain ⟨e, rfl⟩ := castT_some h1
    subst e
    exact hc
  · exact hc
  · cases h
theorem viewCaps_rel {ρf : Ren} {self : Value} : ∀ {l : List CapS} {caps : List Cap} {ρ ρ' : Ren} {x : CapsT l} {vs : List Value}, ρ.Wf → ρ'.Le ρf → viewCaps l caps ρ = some (x, ρ') → vs.length = caps.length →
    (∀ (i : Nat) c u, caps[i]? = some c → vs[i]? = some u → CapR P φ w B self c u) → vs.length = (fillCaps l x).length ∧ ∀ (i : Nat) c u, (fillCaps l x)[i]? = some c → vs[i]? = some u → CapR P (phiV φ ρf) w B self c u := by
  intro l
  induction l with
  | nil =>
    intro caps ρ ρ' x vs hw hl h h1 h2
    cases caps with
    | nil => exact ⟨by simpa [fillCaps] using h1, fun i c u hi => by simp [fillCaps] at hi⟩
    | cons c cs => cases h
  | cons t l ih =>
    intro caps ρ ρ' x vs hw hl h h1 h2
    cases caps with
    | nil => cases h
    | cons c cs =>
      obtain ⟨p, h3, h⟩ := ob_some (show ob (viewCap t c ρ) _ = _ from h)
      obtain ⟨q, h4, h⟩ := ob_some h
      injection h with h'
      injection h' with hx hρ
      subst hρ
      subst hx
      obtain ⟨a1, a2⟩ := viewCap_le (x := p.1) (ρ' := p.2) h3 hw
      obtain ⟨b1, b2⟩ := viewCaps_le (x := q.1) (ρ' := q.2) h4 a2
      cases vs with
      | nil => simp at h1
      | cons u us =>
        obtain ⟨k1, k2⟩ := ih (x := q.1) (ρ' := q.2) (vs := us) a2 hl h4 (by simpa using h1) fun i c u hc hu => h2 (i + 1) c u (by simpa using hc) (by simpa using hu)
        refine ⟨by simp [fillCaps, k1], fun i c' u' hc hu => ?_⟩
        cases i with
        | zero =>
          simp only [fillCaps, List.getElem?_cons_zero, Option.some.injEq] at hc hu
          subst hc hu
          exact viewCap_rel hw (b1.trans hl) (x := p.1) (ρ' := p.2) h3 (h2 0 c u rfl rfl)
        | succ i => exact k2 i c' u' (by simpa [fillCaps] using hc) (by simpa using hu)
theorem viewClo_rel {ρ ρ' ρf : Ren} (hw : ρ.Wf) (hl : ρ'.Le ρf) {f : FuncId} {l : List CapS} {caps : List Cap} {x : CapsT l} {v : Value} (h : viewCaps l caps ρ = some (x, ρ')) (hc : CloR P φ w B f caps v) : CloR P (phiV φ ρf) w B f (fillCaps l x) v := by
  obtain ⟨vs, h1, h2, h3, h4⟩ := hc
  obtain ⟨k1, k2⟩ := viewCaps_rel hw hl h h2 h4
  exact ⟨vs, h1, k1, h3, k2⟩

theorem viewC_rel {σ σ' : Sto} {ρ ρ' ρf : Ren} (hw : ρ.Wf) (hl : ρ'.Le ρf)
    (hσ : ∀ n i e t m xs hv hole, ρf.find n = some (some i) → σ' n = some (.sl e t m xs hv hole) → hv = 0 ∧ ∃ m0 xs0 hv0, σ i = some (.sl e t m0 xs0 hv0 none) ∧ (m = .deep → m0 = .deep)) (hlen : ∀ i e t m xs hv v, σ i = some (.sl e t m xs hv none) → φ i = some v → ∃ A c, v = .slice A (xs : List t.T).length c ∧ (xs : List t.T).length ≤ c) :
    ∀ {s : CS} {x : s.T} {c : C} {v : Value}, viewC σ s c ρ = some (x, ρ') → CR P σ φ w B c v → CR P σ' (phiV φ ρf) w B (fillC s x) v := by
  have hphi : ∀ {n i}, ρf.find n = some (some i) → phiV φ ρf n = φ i := fun h => by simp [phiV, h]
  intro s x c v h hc
  unfold viewC at h
  split at h
  · trivial
  · exact hc
  · obtain ⟨y, h1, h⟩ := ob_some h
    injection h with h
    injection h with hx _
    subst hx
    obtain ⟨us, rfl, hr⟩ := hc
    obtain ⟨e, rfl⟩ := castT_some h1
    subst e
    exact ⟨us, rfl, hr⟩
  · injection h with h
    injection h with hx _
    subst hx
    cases hc
    exact ⟨[.slice none 0 0], rfl, none, 0, rfl, Nat.le_refl _, fun h => absurd h (by simp)⟩
  · obtain ⟨y, h1, h⟩ := ob_some h
    injection h with h
    injection h with hx hρ
    subst hρ
    have hf := hl _ _ (Ren.add_spec h1 hw).2.2
    exact ⟨by rw [hphi hf]; exact hc.1, hc.2⟩
  · obtain ⟨y, h1, h⟩ := ob_some h
    injection h with h
    injection h with hx hρ
    subst hρ
    have hf := hl _ _ (Ren.nil_spec h1 hw).2.2
    cases hc
    exact ⟨by simp [phiV, hf], none, 0, 0, rfl⟩
  · split at h
    · rename_i n i j hv hv' ho
      obtain ⟨hb, h⟩ := cond_some h
      have hb := beq_eq hb
      obtain ⟨y, h1, h⟩ := ob_some h
      injection h with h
      injection h with hx hρ
      subst hρ
      subst hx
      have hf := hl _ _ (Ren.add_spec h1 hw).2.2
      obtain ⟨c1, c2, c3, c4⟩ := hc
      refine ⟨c1, by rw [hphi hf]; exact c2, fun _ _ _ _ _ _ _ => Nat.zero_le _, fun e a b xs hole hs => ?_⟩
      obtain ⟨_, m0, xs0, hv0, h2, hm0⟩ := hσ _ _ _ _ _ _ _ _ hf hs
      have hm0 := hm0 rfl
      subst hm0
      rw [ho] at h2
      injection h2 with h2
      cases h2
      subst hb
      rw [hphi hf]
      exact c4 _ _ _ _ _ ho
    · cases h
  · obtain ⟨hb, h⟩ := cond_some h
    have hb := beq_eq hb
    obtain ⟨y, h1, h⟩ := ob_some h
    injection h with h
    injection h with hx hρ
    subst hρ
    subst hb
    have hf := hl _ _ (Ren.add_spec h1 hw).2.2
    obtain ⟨g, c1, c2⟩ := hc
    exact ⟨g, by rw [hphi hf]; exact c1, c2⟩
  · split at h
    · obtain ⟨hb, h⟩ := cond_some h
      obtain ⟨hb1, hb2⟩ := both_true.1 hb
      have hb1 := kb_eq hb1
      have hb2 := beq_eq hb2
      subst hb1
      subst hb2
      exact hc
    · cases h
  · rename_i n sz i sz' lo hi
    obtain ⟨hb, h⟩ := cond_some h
    have hb := beq_eq hb
    obtain ⟨y, h1, h⟩ := ob_some h
    injection h with h
    injection h with hx hρ
    subst hρ
    subst hx
    have hf := hl _ _ (Ren.add_spec h1 hw).2.2
    obtain ⟨A, m, k, A', c1, c2, c3, c4, c5, c6, c7, rfl⟩ := hc
    refine ⟨A, m, k, A', by rw [hphi hf]; exact c1, c2, c3, c4, c5, fun e t m xs hv hole hs => ?_, by rw [hb]; exact c7, rfl⟩
    obtain ⟨_, m0, xs0, hv0, h2, _⟩ := hσ _ _ _ _ _ _ _ _ hf hs
    rw [hb]
    exact c6 _ _ _ _ _ _ h2
  · rename_i n sz i
    split at h
    · rename_i e0 t m xs hv ho
      obtain ⟨hb, h⟩ := cond_some h
      have hb := beq_eq hb
      obtain ⟨y, h1, h⟩ := ob_some h
      injection h with h
      injection h with hx hρ
      subst hρ
      subst hx
      have hf := hl _ _ (Ren.add_spec h1 hw).2.2
      obtain ⟨A, k, rfl, hk⟩ := hlen _ _ _ _ _ _ _ ho hc.1
      refine ⟨A, xs.length, k, A, by rw [hphi hf]; exact hc.1, Int.le_refl _, Int.natCast_nonneg _, Int.le_refl _, hk, fun e t m xs hv hole hs => ?_, ⟨0, Nat.zero_le _, fun _ => by simp, (add_zero_map A).symm⟩, ?_⟩
      · obtain ⟨_, m0, xs0, hv0, h2, _⟩ := hσ _ _ _ _ _ _ _ _ hf hs
        rw [ho] at h2
        injection h2 with h2
        injection h2 with _ h2
        rw [hb, h2]
      · show Value.slice A xs.length k = Value.slice A (tLen xs - 0).toNat (k - (0 : Int).toNat)
        simp [tLen]
    · cases h
  · obtain ⟨hb, hK⟩ := cond_some h
    have hb := beq_eq hb
    clear h
    subst hb
    exact viewClo_rel hw hl hK hc
  · obtain ⟨hb, hK⟩ := cond_some h
    have hb := beq_eq hb
    clear h
    subst hb
    obtain ⟨g, u, h1, h2, h3, h4⟩ := hc
    exact ⟨g, u, h1, h2, h3, viewClo_rel hw hl hK h4⟩
  · obtain ⟨y, h1, h⟩ := ob_some h
    injection h with h
    injection h with hx hρ
    subst hρ
    have hf := hl _ _ (Ren.add_spec h1 hw).2.2
    exact ⟨by rw [hphi hf]; exact hc.1, hc.2⟩
  · cases h

theorem viewCs_rel {σ σ' : Sto} {ρf : Ren} (hlen : ∀ i e t m xs hv v, σ i = some (.sl e t m xs hv none) → φ i = some v → ∃ A c, v = .slice A (xs : List t.T).length c ∧ (xs : List t.T).length ≤ c) (hσ : ∀ n i e t m xs hv hole, ρf.find n = some (some i) → σ' n = some (.sl e t m xs hv hole) → hv = 0 ∧ ∃ m0 xs0 hv0, σ i = some (.sl e t m0 xs0 hv0 none) ∧ (m = .deep → m0 = .deep)) :
    ∀ {l : List CS} {cs : List C} {ρ ρ' : Ren} {x : CsT l} {us : List Value}, ρ.Wf → ρ'.Le ρf → viewCs σ l cs ρ = some (x, ρ') → CsR P σ φ w B cs us → CsR P σ' (phiV φ ρf) w B (fillCs' l x) us := by
  intro l
  induction l with
  | nil =>
    intro cs ρ ρ' x us hw hl h hc
    cases cs with
    | nil =>
      have : us = [] := List.eq_nil_of_length_eq_zero (by simpa using hc.1)
      subst this
      exact CsR.nil
    | cons c cs => cases h
  | cons t l ih =>
    intro cs ρ ρ' x us hw hl h hc
    cases cs with
    | nil => cases h
    | cons c cs =>
      obtain ⟨p, h1, h⟩ := ob_some (show ob (viewC σ t c ρ) _ = _ from h)
      obtain ⟨q, h2, h⟩ := ob_some h
      injection h with h'
      injection h' with hx hρ
      subst hρ
      subst hx
      obtain ⟨a1, a2⟩ := viewC_le (x := p.1) (ρ' := p.2) h1 hw
      obtain ⟨b1, b2⟩ := viewCs_le (x := q.1) (ρ' := q.2) h2 a2
      cases us with
      | nil => have := hc.1; simp at this
      | cons u us =>
        have hc1 : CsR P σ φ w B cs us := by
          have := hc.drop 1
          simpa using this
        have h3 := viewC_rel (P := P) (w := w) (B := B) (φ := φ) hw (b1.trans hl) hσ hlen (x := p.1) h1 (hc.2.2 0 c u rfl rfl)
        have h4 := CsR.single h3 (hc.2.1 u (by simp))
        exact h4.append (ih (x := q.1) (ρ' := q.2) a2 hl h2 hc1)

theorem viewV_rel {σ σ' : Sto} {ρ ρ' ρf : Ren} (hw : ρ.Wf) (hl : ρ'.Le ρf)
    (hσ : ∀ n i e t m xs hv hole, ρf.find n = some (some i) → σ' n = some (.sl e t m xs hv hole) → hv = 0 ∧ ∃ m0 xs0 hv0, σ i = some (.sl e t m0 xs0 hv0 none) ∧ (m = .deep → m0 = .deep)) (hlen : ∀ i e t m xs hv v, σ i = some (.sl e t m xs hv none) → φ i = some v → ∃ A c, v = .slice A (xs : List t.T).length c ∧ (xs : List t.T).length ≤ c) :
    ∀ {s : VS} {x : s.T} {v : V} {val : Value}, viewV σ s v ρ = some (x, ρ') → VR P σ φ w B v val → VR P σ' (phiV φ ρf) w B (fillV s x) val := by
  intro s x v val h hv
  unfold viewV at h
  split at h
  · exact viewC_rel hw hl hσ hlen h hv
  · rename_i t cs
    obtain ⟨ha, h⟩ := cond_some h
    obtain ⟨y, h1, h⟩ := ob_some h
    injection h with h'
    injection h' with hx hρ
    subst hx
    obtain ⟨us, rfl, hc⟩ := hv
    exact ⟨us, (mk_agg ha us).symm, roCs_rel hc h1⟩
  · trivial
  · obtain ⟨us, rfl, hc⟩ := hv
    exact ⟨us, rfl, viewCs_rel hlen hσ hw hl h hc⟩
  · cases h

theorem viewE_rel {σ σ' : Sto} {e : Env} {ρf : Ren} {val : Nat → Value} (hlen : ∀ i e t m xs hv v, σ i = some (.sl e t m xs hv none) → φ i = some v → ∃ A c, v = .slice A (xs : List t.T).length c ∧ (xs : List t.T).length ≤ c) (hσ : ∀ n i e t m xs hv hole, ρf.find n = some (some i) → σ' n = some (.sl e t m xs hv hole) → hv = 0 ∧ ∃ m0 xs0 hv0, σ i = some (.sl e t m0 xs0 hv0 none) ∧ (m = .deep → m0 = .deep))
    (hv : ∀ t, VR P σ φ w B (e t) (val t)) : ∀ {l : List (Nat × VS)} {ρ ρ' : Ren} {x : EnvT l}, ρ.Wf → ρ'.Le ρf → viewE σ e l ρ = some (x, ρ') → ∀ t, VR P σ' (phiV φ ρf) w B (fillE l x t) (val t) := by
  intro l
  induction l with
  | nil => intro ρ ρ' x _ _ _ t; trivial
  | cons p l ih =>
    intro ρ ρ' x hw hl h t
    obtain ⟨t0, v⟩ := p
    obtain ⟨p, h1, h⟩ := ob_some (show ob (viewV σ v (e t0) ρ) _ = _ from h)
    obtain ⟨q, h2, h⟩ := ob_some h
    injection h with h'
    injection h' with hx hρ
    subst hρ
    subst hx
    obtain ⟨a1, a2⟩ := viewV_le (x := p.1) (ρ' := p.2) h1 hw
    obtain ⟨b1, b2⟩ := viewE_le (x := q.1) (ρ' := q.2) h2 a2
    simp only [fillE]
    cases hb : Nat.beq t t0 with
    | true =>
      have := beq_eq hb
      subst this
      exact viewV_rel hw (b1.trans hl) hσ hlen (x := p.1) h1 (hv t)
    | false => exact ih (x := q.1) (ρ' := q.2) a2 hl h2 t

def NewU (u : List Nat) : Id → Prop := fun i => 32 ≤ i ∧ i / 32 - 1 ∉ u

theorem allBelow_find : ∀ {ρ : Ren} {n m : Nat} {o : Option Id}, allBelow ρ n = true → ρ.find m = some o → m < n := by
  intro ρ
  induction ρ with
  | nil => intro n m o _ h; cases h
  | cons p ρ ih =>
    intro n m o h hf
    obtain ⟨h1, h2⟩ := both_true.1 h
    unfold Ren.find at hf
    obtain ⟨k, o'⟩ := p
    simp only at hf
    cases hb : Nat.beq k m with
    | true => have := beq_eq hb; subst this; exact blt_lt h1
    | false => rw [hb] at hf; exact ih h2 hf

theorem viewO_sl {σ : Sto} {o : PObj} {ρ ρ' : Ren} {e : TypeId} {t : Ty} {m : Mo} {x : List t.T} (h : viewO σ (.sl e t m) o ρ = some (x, ρ')) : ∃ m0 hv0, o = .sl e t m0 x hv0 none ∧ (m0 = m ∨ m = .own ∧ m0 = .deep ∧ x = []) := by
  cases o with
  | box cs => cases h
  | mbox a y => cases h
  | mp k e κ xs => cases h
  | mat xs => cases h
  | sl e' t' m' xs hv hole =>
    cases hole with
    | some j => cases h
    | none =>
      simp only [viewO] at h
      cases hb : mob m m' with
      | true =>
        rw [hb] at h
        obtain ⟨q1, hK⟩ := cond_some (show cond _ _ none = _ from h)
        clear h
        have := beq_eq q1
        clear q1
        subst this
        have := mob_eq hb
        clear hb
        subst this
        obtain ⟨z, h10, h9⟩ := ob_some hK
        injection h9 with h9
        injection h9 with h9 _
        subst h9
        obtain ⟨e3, h11⟩ := castT_some h10
        injection e3 with _ e3
        subst e3
        subst h11
        exact ⟨m, hv, rfl, .inl rfl⟩
      | false =>
        rw [hb] at h
        obtain ⟨q0, hK⟩ := cond_some (show cond _ _ none = _ from h)
        clear h hb
        obtain ⟨q1, q2⟩ := both_true.1 q0
        have q1 := mob_eq q1
        have q2 := mob_eq q2
        clear q0
        subst q1 q2
        split at hK
        · obtain ⟨q3, hK2⟩ := cond_some hK
          clear hK
          obtain ⟨q4, q5⟩ := both_true.1 q3
          have q4 := beq_eq q4
          have q5 := tyb_eq q5
          clear q3
          subst q4 q5
          injection hK2 with h
          injection h with h _
          subst h
          exact ⟨.deep, hv, rfl, .inr ⟨rfl, rfl, rfl⟩⟩
        · cases hK

theorem Ow.empty {t : Ty} {v : Value} {bs : List Nat} (h : Ow P w B v t .deep ([] : List t.T) none bs) : OwL P t w B v [] bs := by
  cases t <;> first | exact False.elim h | skip
  rcases (show OwD P _ w B v _ none bs from h) with ⟨h1, _, h2⟩ | ⟨g, o, c, cur, e, bss, h1, h2, h3, h4, h5, h6, _⟩
  · exact .inl ⟨h1, rfl, h2⟩
  · have : bss = [] := List.eq_nil_of_length_eq_zero (by simpa using h6)
    subst this
    exact .inr ⟨g, o, c, cur, e, h1, h2, h3, by simpa [Ty.n] using h4, by simpa using h5, fun i hi => absurd hi (by simp)⟩

theorem Ow.hdr : ∀ {t : Ty} {m : Mo} {v : Value} {xs : List t.T} {hole : Option Int} {bs : List Nat}, Ow P w B v t m xs hole bs → ∃ A c, v = .slice A xs.length c ∧ xs.length ≤ c := by
  intro t m v xs hole bs h
  cases m with
  | fro => obtain ⟨A, c, h1, h2, _⟩ := h.1; injection h1 with h1; exact ⟨A, c, h1, h2⟩
  | own =>
    rcases (show OwL P t w B v xs bs from h) with ⟨rfl, rfl, _⟩ | ⟨g, o, c, cur, e, h1, _, h2, _⟩
    · exact ⟨none, 0, rfl, Nat.le_refl _⟩
    · exact ⟨_, c, h1, h2⟩
  | deep =>
    cases t <;> first | exact False.elim h | skip
    rcases (show OwD P _ w B v xs hole bs from h) with ⟨rfl, rfl, _⟩ | ⟨g, o, c, cur, e, bss, h1, _, h2, _⟩
    · exact ⟨none, 0, rfl, Nat.le_refl _⟩
    · exact ⟨_, c, h1, h2⟩

theorem view0_sound (Rl : Rel P B new s tmps w φ β) {sh : Sh} {x : sh.T} (h : view0 sh s = some x) (u : List Nat) :
    ∃ φ' β', Rel P B (NewU u) (fill sh x) tmps w φ' β' ∧ Gr s.sto w B β (fill sh x).sto w B β' := by
  obtain ⟨p, h1, h⟩ := ob_some (show ob (viewE s.sto s.env sh.env []) _ = _ from h)
  obtain ⟨q, h2, h⟩ := ob_some h
  obtain ⟨hb, h⟩ := cond_some h
  obtain ⟨hb1, hb2⟩ := both_true.1 hb
  have hb2 := ble_le hb2
  injection h with hx
  subst hx
  have w0 : Ren.Wf [] := fun n m i h => by cases h
  obtain ⟨a1, a2⟩ := viewE_le (x := p.1) (ρ' := p.2) h1 w0
  obtain ⟨b1, b2, b3⟩ := viewS_spec (x := q.1) (ρ' := q.2) h2 a2
  have hobj : ∀ k o, (fill sh (p.1, q.1)).sto k = some o → ∃ (t : OS) (y : t.T), o = fillO t y ∧ ObjAt s.sto q.2 t y k ∧ 0 ≤ k ∧ k < 0 + sh.sto.length := b3 q.2 (Ren.Le.refl _)
  have hσ : ∀ n i e t m xs hv hole, q.2.find n = some (some i) → (fill sh (p.1, q.1)).sto n = some (.sl e t m xs hv hole) → hv = 0 ∧ ∃ m0 xs0 hv0, s.sto i = some (.sl e t m0 xs0 hv0 none) ∧ (m = .deep → m0 = .deep) := by
    intro n i e t m xs hv hole hf hs
    obtain ⟨st, y, h3, h4, _⟩ := hobj n _ hs
    rcases h4 with ⟨i', o, ρ, ρ', h5, h6, h7, h8, h9⟩ | ⟨h5, _⟩
    · rw [hf] at h5
      injection h5 with h5
      injection h5 with h5
      subst h5
      cases st with
      | box l => cases h3
      | mbox t => cases h3
      | mp k e κ => cases h3
      | mat => cases h3
      | sl e' t' m' =>
        cases h3
        obtain ⟨m0, hv0, h10, h11⟩ := viewO_sl h9
        subst h10
        exact ⟨rfl, _, _, _, h6, fun hd => by
          rcases h11 with h | ⟨h, _⟩
          · rw [h, hd]
          · rw [h] at hd; cases hd⟩
    · rw [hf] at h5; cases h5
  have hβ : ∀ n b, b ∈ betaV β q.2 n → ∃ i, q.2.find n = some (some i) ∧ b ∈ β i := fun n b hb => by
    unfold betaV at hb
    split at hb
    · rename_i i hf; exact ⟨i, hf, hb⟩
    · exact absurd hb (by simp)
  have hlive : ∀ n i, (fill sh (p.1, q.1)).sto n ≠ none → q.2.find n = some (some i) → s.sto i ≠ none := fun n i hs hf => by
    obtain ⟨o, ho⟩ := Option.ne_none_iff_exists'.1 hs
    obtain ⟨st, y, h3, h4, _⟩ := hobj n _ ho
    rcases h4 with ⟨i', o', ρ, ρ', h5, h6, _⟩ | ⟨h5, _⟩
    · rw [hf] at h5
      injection h5 with h5
      injection h5 with h5
      subst h5
      rw [h6]; simp
    · rw [hf] at h5; cases h5
  have hlen : ∀ i e t m xs hv v, s.sto i = some (.sl e t m xs hv none) → φ i = some v → ∃ A c, v = .slice A (xs : List t.T).length c ∧ (xs : List t.T).length ≤ c := fun i e t m xs hv v h1 h2 => by
    obtain ⟨v', h3, h4, _⟩ := Rl.obj i _ h1
    rw [h2] at h3
    injection h3 with h3
    subst h3
    exact Ow.hdr h4
  refine ⟨phiV φ q.2, betaV β q.2, ⟨viewE_rel hlen hσ Rl.env w0 b1 h1, fun n o ho => ?_, fun n m hnm hn hm b hbn hbm => ?_, Rl.low, fun i hi => ?_⟩, ⟨Fr.refl _ _, fun n b hn hb => ?_, fun b hb => .inl hb, fun _ h => h⟩⟩
  · obtain ⟨st, y, h3, h4, _⟩ := hobj n _ ho
    subst h3
    rcases h4 with ⟨i, o', ρ, ρ', h5, h6, h7, h8, h9⟩ | ⟨h5, e, t, m, rfl, h6, h7⟩
    · obtain ⟨v, r1, r2, r3, r4⟩ := Rl.obj i _ h6
      have hbe : betaV β q.2 n = β i := by simp [betaV, h5]
      refine ⟨v, by simp [phiV, h5, r1], ?_, by rw [hbe]; exact r3, fun b hb => r4 b (by rw [hbe] at hb; exact hb)⟩
      rw [hbe]
      cases st with
      | sl e t m =>
        obtain ⟨m0, hv0, h10, h11⟩ := viewO_sl h9
        subst h10
        rcases h11 with h11 | ⟨h11, h12, h13⟩
        · subst h11
          exact r2
        · subst h11 h12
          have h13 : y = ([] : List t.T) := h13
          subst h13
          exact Ow.empty r2
      | mbox t =>
        cases o' with
        | sl e' t' m' xs hv hole => cases h9
        | box cs => cases h9
        | mp k e κ xs => cases h9
        | mat xs => cases h9
        | mbox a z =>
          obtain ⟨z', h10, h11⟩ := ob_some (show ob _ _ = _ from h9)
          injection h11 with h11
          injection h11 with h11 _
          subst h11
          obtain ⟨e3, rfl⟩ := castT_some h10
          subst e3
          exact r2
      | box l =>
        cases o' with
        | sl e' t' m' xs hv hole => cases h9
        | mbox a z => cases h9
        | mp k e κ xs => cases h9
        | mat xs => cases h9
        | box cs =>
          obtain ⟨g, cur, e, c1, c2, c3, c4⟩ := r2
          exact ⟨g, cur, e, c1, c2, c3, viewCs_rel hlen hσ h8 h7 h9 c4⟩
      | mp k e κ =>
        cases o' with
        | sl e' t' m' xs hv hole => cases h9
        | mbox a z => cases h9
        | box cs => cases h9
        | mat xs => cases h9
        | mp k' e' κ' xs =>
          obtain ⟨q1, q2⟩ := cond_some (show cond _ _ none = _ from h9)
          injection q2 with q2
          injection q2 with q2 _
          subst q2
          obtain ⟨rfl, rfl, rfl⟩ := sameMap_ok q1
          exact r2
      | mat =>
        cases o' with
        | sl e' t' m' xs hv hole => cases h9
        | mbox a z => cases h9
        | box cs => cases h9
        | mp k e κ xs => cases h9
        | mat xs =>
          injection h9 with q2
          injection q2 with q2 _
          subst q2
          exact r2
    · have hy : y = ([] : List t.T) := eq_of_heq h7
      subst hy
      have hbe : betaV β q.2 n = [] := by simp [betaV, h5]
      refine ⟨.slice none 0 0, by simp [phiV, h5], ?_, by rw [hbe]; simp, fun b hb => by rw [hbe] at hb; simp at hb⟩
      rw [hbe]
      show Ow P w B (.slice none 0 0) t m ([] : List t.T) none []
      cases m with
      | own => exact .inl ⟨rfl, rfl, rfl⟩
      | fro => exact ⟨⟨none, 0, rfl, Nat.le_refl _, fun h => absurd h (by simp)⟩, rfl⟩
      | deep =>
        have := h6 rfl
        cases t <;> simp only [Ty.isList] at this <;> first | (cases this; done) | exact .inl ⟨rfl, rfl, rfl⟩
  · obtain ⟨i, hi, hbi⟩ := hβ n b hbn
    obtain ⟨j, hj, hbj⟩ := hβ m b hbm
    have hij : i ≠ j := fun e => by subst e; exact hnm (b2 n m i hi hj)
    exact Rl.sep i j hij (hlive n i hn hi) (hlive m j hm hj) b hbi hbj
  · unfold phiV
    split
    · rename_i j hf
      have := allBelow_find hb1 hf
      exact absurd (show (32 : Nat) ≤ i from hi.1) (Nat.not_le_of_lt (Nat.lt_of_lt_of_le this hb2))
    · rename_i hf
      have := allBelow_find hb1 hf
      exact absurd (show (32 : Nat) ≤ i from hi.1) (Nat.not_le_of_lt (Nat.lt_of_lt_of_le this hb2))
    · rfl
  · obtain ⟨i, hi, hbi⟩ := hβ n b hb
    exact .inr ⟨i, hlive n i hn hi, hbi⟩

theorem coll_sound {ρ : Ren} : ∀ {l : List OS} {n : Nat} {s : St} {β : Bl}, Rel P B new s tmps w φ β →
    ∃ β', Gr s.sto w B β (s.sto.puts (collU ρ l n s.sto)) w B β' ∧ Rel P B new ⟨s.env, s.sto.puts (collU ρ l n s.sto)⟩ tmps w φ β' := by
  intro l
  induction l with
  | nil => intro n s β Rl; exact ⟨β, Gr.refl _ _ _ _, Rl⟩
  | cons o l ih =>
    intro n s β Rl
    cases o with
    | sl e t m => exact ih Rl
    | box cs => exact ih Rl
    | mp k e κ => exact ih Rl
    | mat => exact ih Rl
    | mbox t =>
      unfold collU
      split
      · rename_i i hf
        split
        · rename_i cs ho
          split
          · rename_i x hx
            obtain ⟨hb, hx⟩ := cond_some hx
            obtain ⟨h2, h3⟩ := both_true.1 hb
            obtain ⟨β1, n1, R1⟩ := Rl.coll ho (beq_eq h2) (nodupIds_ok h3) hx
            obtain ⟨β2, n2, R2⟩ := ih (n := n + 1) R1
            have e1 : ∀ u : Upd, (s.sto.puts ((refs s.sto t cs).map (fun j => (j, none)) ++ (i, some (.mbox t x)) :: u)) = (s.sto.puts ((refs s.sto t cs).map (fun j => (j, none)) ++ [(i, some (.mbox t x))])).puts u := fun u => by
              rw [← puts_append, List.append_assoc]
              rfl
            rw [e1]
            exact ⟨β2, n1.2.trans n2, R2⟩
          · exact ih Rl
        · exact ih Rl
      · exact ih Rl

theorem view_sound (Rl : Rel P B new s tmps w φ β) {sh : Sh} {x : sh.T} (h : view sh s = some x) (u : List Nat) :
    ∃ φ' β', Rel P B (NewU u) (fill sh x) tmps w φ' β' ∧ Gr s.sto w B β (fill sh x).sto w B β' := by
  unfold view at h
  cases hm : hasMbox sh.sto with
  | false => rw [hm] at h; exact view0_sound Rl h u
  | true =>
    rw [hm] at h
    have h : view0 sh (closed sh s) = some x := h
    unfold closed at h
    split at h
    · rename_i p hp
      obtain ⟨β1, g1, R1⟩ := coll_sound (ρ := p.2) (l := sh.sto) (n := 0) Rl
      obtain ⟨φ2, β2, R2, g2⟩ := view0_sound R1 h u
      exact ⟨φ2, β2, R2, g1.trans g2⟩
    · exact view0_sound Rl h u
end
end Go.PV
