/- The table of types, looked through. -/
import Derived.Test.YtahehkidnfmfnaaGreatPvRes
import Derived.Test.YtahehkidnfmfnaaGreatPvDraw
set_option linter.all false
namespace Go.PV
open Go

def elB (Γ : Tab) (e : TypeId) (t : Ty) : Bool :=
  match Γ e with
  | some d => tyb d.ty t
  | none => false
theorem elB_ok {Γ : Tab} {e : TypeId} {t : Ty} (h : elB Γ e t = true) : ∃ d' : TD, Γ e = some d' ∧ d'.ty = t := by
  unfold elB at h
  split at h
  · rename_i d hd; exact ⟨d, hd, tyb_eq h⟩
  · cases h

def intB (Γ : Tab) (e : TypeId) : Bool :=
  match Γ e with
  | some ⟨.int _, _, _⟩ => true
  | _ => false
theorem intB_ok {Γ : Tab} {e : TypeId} (h : intB Γ e = true) : ∃ d' : TD, Γ e = some d' ∧ ∃ κ, d'.ty = .int κ := by
  unfold intB at h
  split at h
  · rename_i k fs el hd; exact ⟨_, hd, k, rfl⟩
  · cases h

def fieldB (Γ : Tab) (n : Nat) : List Field → List (Nat × Ty) → Bool
  | [], [] => true
  | fl :: fr, p :: r => both (both (Nat.beq fl.offset p.1) (both (elB Γ fl.type p.2) (Nat.ble (p.1 + p.2.n) n))) (fieldB Γ n fr r)
  | _, _ => false
theorem fieldB_ok {Γ : Tab} {n : Nat} : ∀ {fl : List Field} {fs : List (Nat × Ty)}, fieldB Γ n fl fs = true → fl.length = fs.length ∧ ∀ (f o : Nat) (t : Ty), fs[f]? = some (o, t) →
    ∃ l : Field, fl[f]? = some l ∧ l.offset = o ∧ (∃ d' : TD, Γ l.type = some d' ∧ d'.ty = t) ∧ o + t.n ≤ n := by
  intro fl
  induction fl with
  | nil =>
    intro fs h
    cases fs with
    | nil => exact ⟨rfl, by intro f o t h; simp at h⟩
    | cons p r => cases h
  | cons l fl ih =>
    intro fs h
    cases fs with
    | nil => cases h
    | cons p r =>
      obtain ⟨h1, h2⟩ := both_true.1 h
      obtain ⟨h3, h4⟩ := both_true.1 h1
      obtain ⟨h5, h6⟩ := both_true.1 h4
      obtain ⟨h7, h8⟩ := ih h2
      refine ⟨by simp [h7], fun f o t hf => ?_⟩
      cases f with
      | zero =>
        simp at hf
        subst hf
        exact ⟨l, by simp, beq_eq h3, elB_ok h5, ble_le h6⟩
      | succ f =>
        obtain ⟨l', q1, q2⟩ := h8 f o t (by simpa using hf)
        exact ⟨l', by simpa using q1, q2⟩

def nest : List Ty → Ty
  | [] => .unit
  | [t] => t
  | t :: r => .pair t (nest r)
def offsOk : Nat → List (Nat × Ty) → Bool
  | _, [] => true
  | o, p :: r => both (Nat.beq p.1 o) (offsOk (o + p.2.n) r)

def descB (Γ : Tab) (u : TypeDesc) (d : TD) : Bool :=
  match d.ty with
  | .int k => match u with
    | .int k' => both (kb k' k) (both d.fs.isEmpty d.el.isNone)
    | _ => false
  | .bool => match u with
    | .bool => both d.fs.isEmpty d.el.isNone
    | _ => false
  | .str => match u with
    | .string => both d.fs.isEmpty d.el.isNone
    | _ => false
  | .list e t => match u, d.el with
    | .slice e', some (e2, t2, _) => both (both (Nat.beq e' e) d.fs.isEmpty) (both (both (Nat.beq e2 e) (tyb t2 t)) (elB Γ e t))
    | _, _ => false
  | .unit => match u, d.el with
    | .struct fields, none => fieldB Γ d.ty.n fields.toList d.fs
    | _, _ => false
  | .pair a b => match u, d.el with
    | .struct fields, none => fieldB Γ (Ty.pair a b).n fields.toList d.fs
    | .array l e, some (e2, t, l2) => both (both (Nat.beq l l2) (Nat.beq e2 e)) (both (elB Γ e t) (Nat.beq (l * t.n) (Ty.pair a b).n))
    | _, _ => false
  | .sptr k e => match u with
    | .map k' e' => both (both (both (Nat.beq k' k) (Nat.beq e' e)) (both (intB Γ k) (elB Γ e .bool))) (both d.fs.isEmpty d.el.isNone)
    | _ => false
  | _ => both d.fs.isEmpty d.el.isNone

def zbB : Ty → Value → Bool
  | .bool, .bool b => no b
  | .bool, _ => false
  | _, _ => true
theorem zbB_ok {t : Ty} {z : Value} (h : zbB t z = true) (ht : t = .bool) : z = .bool false := by
  subst ht
  cases z <;> simp [zbB] at h
  rename_i b
  cases b
  · rfl
  · cases h
def smallB : Ty → Bool
  | .list _ t => Nat.blt t.n 64
  | _ => true
theorem smallB_ok {d e t} (h : smallB d = true) (hd : d = Ty.list e t) : t.n < 64 := by
  subst hd
  exact blt_lt (show Nat.blt t.n 64 = true from h)
theorem bytes_ok {n b : Nat} (h : cond (Nat.blt n 64) (Nat.ble b 128) true = true) (hn : n < 64) : b ≤ 128 := by
  rw [show Nat.blt n 64 = true from Nat.ble_eq_true_of_le hn] at h
  exact ble_le h
def tdB (P : Program) (Γ : Tab) (τ : TypeId) (d : TD) : Bool :=
  match P.info? τ, P.underlying τ with
  | some i, some u => match i.zero with
    | some z => both (zbB d.ty z) (both (both (Nat.beq i.size d.ty.n) (both (both (cond (Nat.blt d.ty.n 64) (Nat.ble i.bytes 128) true) (smallB d.ty)) (Nat.ble d.ty.n 1000))) (both (both (zeroOk d.ty z.cells.toList) (agb (aggDesc u) d.ty.agg)) (descB Γ u d)))
    | none => false
  | _, _ => false

set_option maxHeartbeats 1000000 in
theorem tdB_ok {P : Program} {Γ : Tab} {τ : TypeId} {d : TD} (h : tdB P Γ τ d = true) : TdOk P Γ τ d := by
  unfold tdB at h
  split at h
  · rename_i i u hi hu
    split at h
    · rename_i z hz
      obtain ⟨hzb, h0⟩ := both_true.1 h
      obtain ⟨h1, h2⟩ := both_true.1 h0
      obtain ⟨h3, h4⟩ := both_true.1 h1
      obtain ⟨h5, h6⟩ := both_true.1 h4
      obtain ⟨h7, h8⟩ := both_true.1 h2
      obtain ⟨h9, h10⟩ := both_true.1 h7
      have hfs : ∀ {c : Bool}, both c (both d.fs.isEmpty d.el.isNone) = true → d.fs = [] ∧ d.el = none := fun hb => by
        obtain ⟨_, hb⟩ := both_true.1 hb
        obtain ⟨a, b⟩ := both_true.1 hb
        exact ⟨by simpa using a, by simpa using b⟩
      have hfs' : both d.fs.isEmpty d.el.isNone = true → d.fs = [] ∧ d.el = none := fun hb => by
        obtain ⟨a, b⟩ := both_true.1 hb
        exact ⟨by simpa using a, by simpa using b⟩
      have base : ∀ (_ : ∀ k, d.ty = .int k → u = .int k) (_ : d.ty = .bool → u = .bool) (_ : d.ty = .str → u = .string) (_ : ∀ e t, d.ty = .list e t → u = .slice e ∧ (∃ l, d.el = some (e, t, l)) ∧ ∃ d' : TD, Γ e = some d' ∧ d'.ty = t)
          (_ : d.ty.agg = true → d.el = none → ∃ fields : Array Field, u = .struct fields ∧ fields.size = d.fs.length ∧ ∀ (f o : Nat) (t : Ty), d.fs[f]? = some (o, t) → ∃ fl : Field, fields[f]? = some fl ∧ fl.offset = o ∧ (∃ d' : TD, Γ fl.type = some d' ∧ d'.ty = t) ∧ o + t.n ≤ d.ty.n)
          (_ : d.ty.agg = true → ∀ e t l, d.el = some (e, t, l) → u = .array l e ∧ (∃ d' : TD, Γ e = some d' ∧ d'.ty = t) ∧ l * t.n = d.ty.n)
          (_ : d.ty.agg = false → d.fs = []) (_ : d.ty.agg = false → ∀ e t l, d.el = some (e, t, l) → d.ty = .list e t)
          (_ : ∀ k e, d.ty = .sptr k e → u = .map k e ∧ (∃ d' : TD, Γ k = some d' ∧ ∃ κ, d'.ty = .int κ) ∧ ∃ d' : TD, Γ e = some d' ∧ d'.ty = .bool), TdOk P Γ τ d := fun q1 q2 q3 q4 q5 q6 q7 q8 q9 =>
        ⟨i, z, u, ⟨hi, beq_eq h3, fun hn => bytes_ok (both_true.1 h5).1 hn, fun e t he => smallB_ok (both_true.1 h5).2 he, ble_le h6, hz, h9, hu, agb_eq h10, q1, q2, q3, q4, q5, q6, q7, zbB_ok hzb, q9, q8⟩⟩
      unfold descB at h8
      have mkS : ∀ {fields : Array Field} {n : Nat}, n = d.ty.n → u = .struct fields → fieldB Γ n fields.toList d.fs = true → ∃ fields : Array Field, u = .struct fields ∧ fields.size = d.fs.length ∧ ∀ (f o : Nat) (t : Ty), d.fs[f]? = some (o, t) → ∃ fl : Field, fields[f]? = some fl ∧ fl.offset = o ∧ (∃ d' : TD, Γ fl.type = some d' ∧ d'.ty = t) ∧ o + t.n ≤ d.ty.n := fun {fields n} hn hu hf => by
        obtain ⟨k1, k2⟩ := fieldB_ok hf
        refine ⟨fields, hu, by simpa using k1, fun f o t hft => ?_⟩
        obtain ⟨l, k3, k4, k5, k6⟩ := k2 f o t hft
        exact ⟨l, by simpa using k3, k4, k5, hn ▸ k6⟩
      cases ht : d.ty with
      | int k =>
        rw [ht] at h8
        dsimp only at h8
        split at h8
        · rename_i k'
          obtain ⟨e1, e2⟩ := hfs h8
          have := kb_eq (both_true.1 h8).1
          subst this
          refine base ?_ ?_ ?_ ?_ ?_ ?_ ?_ ?_ ?_ <;> intros <;> simp_all [Ty.agg]
        · cases h8
      | bool =>
        rw [ht] at h8
        dsimp only at h8
        split at h8
        · obtain ⟨e1, e2⟩ := hfs' h8
          refine base ?_ ?_ ?_ ?_ ?_ ?_ ?_ ?_ ?_ <;> intros <;> simp_all [Ty.agg]
        · cases h8
      | str =>
        rw [ht] at h8
        dsimp only at h8
        split at h8
        · obtain ⟨e1, e2⟩ := hfs' h8
          refine base ?_ ?_ ?_ ?_ ?_ ?_ ?_ ?_ ?_ <;> intros <;> simp_all [Ty.agg]
        · cases h8
      | list e t =>
        rw [ht] at h8
        dsimp only at h8
        split at h8
        · rename_i e' e2 t2 l hel
          obtain ⟨k1, k2⟩ := both_true.1 h8
          obtain ⟨k3, k4⟩ := both_true.1 k1
          obtain ⟨k5, k6⟩ := both_true.1 k2
          obtain ⟨k7, k8⟩ := both_true.1 k5
          have e1 := beq_eq k3
          have e2' := beq_eq k7
          have e3 := tyb_eq k8
          subst e1 e2' e3
          have e4 : d.fs = [] := by simpa using k4
          refine base ?_ ?_ ?_ ?_ ?_ ?_ ?_ ?_ ?_
          · intro k h; rw [ht] at h; cases h
          · intro h; rw [ht] at h; cases h
          · intro h; rw [ht] at h; cases h
          · intro e t h
            rw [ht] at h
            cases h
            exact ⟨rfl, ⟨l, hel⟩, elB_ok k6⟩
          · intro h; rw [ht] at h; cases h
          · intro h; rw [ht] at h; cases h
          · intro _; exact e4
          · intro _ e t l' h
            rw [hel] at h
            cases h
            exact ht
          · intro k e h; rw [ht] at h; cases h
        · cases h8
      | unit =>
        rw [ht] at h8
        dsimp only at h8
        split at h8
        · rename_i fields hel
          refine base ?_ ?_ ?_ ?_ ?_ ?_ ?_ ?_ ?_
          · intro k h; rw [ht] at h; cases h
          · intro h; rw [ht] at h; cases h
          · intro h; rw [ht] at h; cases h
          · intro e t h; rw [ht] at h; cases h
          · intro _ _; exact mkS (by rw [ht]) rfl h8
          · intro _ e t l h; rw [hel] at h; cases h
          · intro h; rw [ht] at h; cases h
          · intro h; rw [ht] at h; cases h
          · intro k e h; rw [ht] at h; cases h
        · cases h8
      | pair a b =>
        rw [ht] at h8
        dsimp only at h8
        split at h8
        · rename_i fields hel
          refine base ?_ ?_ ?_ ?_ ?_ ?_ ?_ ?_ ?_
          · intro k h; rw [ht] at h; cases h
          · intro h; rw [ht] at h; cases h
          · intro h; rw [ht] at h; cases h
          · intro e t h; rw [ht] at h; cases h
          · intro _ _; exact mkS (by rw [ht]) rfl h8
          · intro _ e t l h; rw [hel] at h; cases h
          · intro h; rw [ht] at h; cases h
          · intro h; rw [ht] at h; cases h
          · intro k e h; rw [ht] at h; cases h
        · rename_i l e e2 t l2 hel
          obtain ⟨k1, k2⟩ := both_true.1 h8
          obtain ⟨k3, k4⟩ := both_true.1 k1
          obtain ⟨k5, k6⟩ := both_true.1 k2
          have e1 := beq_eq k3
          have e2' := beq_eq k4
          subst e1 e2'
          refine base ?_ ?_ ?_ ?_ ?_ ?_ ?_ ?_ ?_
          · intro k h; rw [ht] at h; cases h
          · intro h; rw [ht] at h; cases h
          · intro h; rw [ht] at h; cases h
          · intro e t h; rw [ht] at h; cases h
          · intro _ h; rw [hel] at h; cases h
          · intro _ e t l' h
            rw [hel] at h
            cases h
            exact ⟨rfl, elB_ok k5, by rw [ht]; exact beq_eq k6⟩
          · intro h; rw [ht] at h; cases h
          · intro h; rw [ht] at h; cases h
          · intro k e h; rw [ht] at h; cases h
        · cases h8
      | sptr k e =>
        rw [ht] at h8
        dsimp only at h8
        split at h8
        · obtain ⟨k1, k2⟩ := both_true.1 h8
          obtain ⟨e1, e2⟩ := hfs' k2
          obtain ⟨k3, k4⟩ := both_true.1 k1
          obtain ⟨k5, k6⟩ := both_true.1 k3
          obtain ⟨k7, k8⟩ := both_true.1 k4
          have e3 := beq_eq k5
          have e4 := beq_eq k6
          subst e3 e4
          have k9 := intB_ok k7
          have k10 := elB_ok k8
          refine base ?_ ?_ ?_ ?_ ?_ ?_ ?_ ?_ ?_
          · intro k h; rw [ht] at h; cases h
          · intro h; rw [ht] at h; cases h
          · intro h; rw [ht] at h; cases h
          · intro e t h; rw [ht] at h; cases h
          · intro h; rw [ht] at h; cases h
          · intro h; rw [ht] at h; cases h
          · intro _; exact e1
          · intro _ e t l' h
            rw [e2] at h
            cases h
          · intro k e h
            rw [ht] at h
            cases h
            exact ⟨rfl, k9, k10⟩
        · cases h8
      | _ =>
        rw [ht] at h8
        dsimp only at h8
        obtain ⟨e1, e2⟩ := hfs' h8
        refine base ?_ ?_ ?_ ?_ ?_ ?_ ?_ ?_ ?_ <;> intros <;> simp_all [Ty.agg]
    · cases h
  · cases h

def tabOf : List (TypeId × TD) → Tab
  | [] => fun _ => none
  | p :: r => fun t => cond (Nat.beq t p.1) (some p.2) (tabOf r t)
def tabB (P : Program) (Γ : Tab) : List (TypeId × TD) → Bool
  | [] => true
  | p :: r => both (tdB P Γ p.1 p.2) (tabB P Γ r)
theorem tabB_ok {P : Program} {Γ : Tab} : ∀ {l : List (TypeId × TD)}, tabB P Γ l = true → ∀ τ d, tabOf l τ = some d → TdOk P Γ τ d := by
  intro l
  induction l with
  | nil => intro _ τ d h; cases h
  | cons p l ih =>
    intro h τ d ht
    obtain ⟨h1, h2⟩ := both_true.1 h
    unfold tabOf at ht
    cases hb : Nat.beq τ p.1 with
    | true =>
      rw [hb] at ht
      injection ht with ht
      have := beq_eq hb
      subst this ht
      exact tdB_ok h1
    | false =>
      rw [hb] at ht
      exact ih h2 τ d ht
theorem tabOk_of {P : Program} {l : List (TypeId × TD)} (h : tabB P (tabOf l) l = true) : TabOk P (tabOf l) := fun τ d ht => tabB_ok h τ d ht
end Go.PV
