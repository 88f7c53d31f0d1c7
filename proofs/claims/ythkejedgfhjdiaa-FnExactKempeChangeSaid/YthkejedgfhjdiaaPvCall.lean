/- Contracts of functions, and calls. -/
import Derived.Test.YthkejedgfhjdiaaPvAdopt
set_option linter.unusedVariables false
set_option linter.all false
namespace Go.PV
open Go

def Ty.isPair : Ty → Bool
  | .pair _ _ => true
  | _ => false

/-- Data that is handed over: its cells, and the blocks it owns. -/
def OwT (P : Program) : (t : Ty) → World → (Nat → Prop) → List Value → t.T → List Nat → Prop
  | .pair a b, w, B, us, x, bs => ∃ u v b1 b2, us = u ++ v ∧ bs = b1 ++ b2 ∧ OwT P a w B u x.1 b1 ∧ OwT P b w B v x.2 b2
  | .list _ t, w, B, us, x, bs => ∃ v, us = [v] ∧ (∃ A n c, v = .slice A n c) ∧ Ow P w B v t (cond t.isList .deep .own) x none bs
  | .int k, w, B, us, x, bs => Rd P (.int k) w B us x ∧ bs = []
  | .bool, w, B, us, x, bs => Rd P .bool w B us x ∧ bs = []
  | .str, w, B, us, x, bs => Rd P .str w B us x ∧ bs = []
  | .unit, w, B, us, x, bs => Rd P .unit w B us x ∧ bs = []
  | .ptr t, w, B, us, x, bs => Rd P (.ptr t) w B us x ∧ bs = []
  | .fn1 a r, w, B, us, x, bs => Rd P (.fn1 a r) w B us x ∧ bs = []
  | .fn2 a b r, w, B, us, x, bs => Rd P (.fn2 a b r) w B us x ∧ bs = []

section
variable {P : Program} {Γ : Tab} {G : GTab} {B : Nat → Prop} {new : Id → Prop} {s : St} {tmps : Array Value} {w : World} {φ : Hd} {β : Bl} {R : Type} {r : R}

theorem OwT.len : ∀ {t : Ty} {us : List Value} {x : t.T} {bs : List Nat}, OwT P t w B us x bs → us.length = t.n := by
  intro t
  induction t with
  | pair a b iha ihb =>
    intro us x bs h
    obtain ⟨u, v, b1, b2, rfl, rfl, h1, h2⟩ := h
    simp [Ty.n, iha h1, ihb h2]
  | list e t _ => intro us x bs h; obtain ⟨v, rfl, _⟩ := h; rfl
  | _ => intro us x bs h; exact h.1.len

theorem OwT.one : ∀ {t : Ty} {us : List Value} {x : t.T} {bs : List Nat}, OwT P t w B us x bs → ∀ u ∈ us, u.oneCell' = true := by
  intro t
  induction t with
  | pair a b iha ihb =>
    intro us x bs h u hu
    obtain ⟨u, v, b1, b2, rfl, rfl, h1, h2⟩ := h
    rcases List.mem_append.1 hu with h | h
    · exact iha h1 _ h
    · exact ihb h2 _ h
  | list e t _ => intro us x bs h u hu; obtain ⟨v, rfl, ⟨A, n, c, rfl⟩, _⟩ := h; simp at hu; subst hu; rfl
  | _ => intro us x bs h; exact h.1.one

theorem OwL.mono {t : Ty} {v : Value} {xs : List t.T} {bs : List Nat} {B' : Nat → Prop} (h : OwL P t w B v xs bs) (hB : t.flat = true ∨ ∀ b, B b → B' b) : OwL P t w B' v xs bs := by
  rcases h with h | ⟨g, o, c, cur, e, h1, h2, h3, h4, h5, h6⟩
  · exact .inl h
  · refine .inr ⟨g, o, c, cur, e, h1, h2, h3, h4, h5, fun i hi => ?_⟩
    obtain ⟨us, h7, h8, h9⟩ := h6 i hi
    rcases hB with hB | hB
    · exact ⟨us, h7, h8, h9.flat hB⟩
    · exact ⟨us, h7, h8, h9.mono hB⟩
theorem OwD.mono {t : Ty} {v : Value} {xs : List (List t.T)} {hole : Option Int} {bs : List Nat} {B' : Nat → Prop} (h : OwD P t w B v xs hole bs) (hB : t.flat = true ∨ ∀ b, B b → B' b) : OwD P t w B' v xs hole bs := by
  rcases h with h | ⟨g, o, c, cur, e, bss, h1, h2, h3, h4, h5, h6, h7⟩
  · exact .inl h
  · refine .inr ⟨g, o, c, cur, e, bss, h1, h2, h3, h4, h5, h6, fun i hi => ?_⟩
    obtain ⟨u, h8, h9, h10⟩ := h7 i hi
    exact ⟨u, h8, h9, h10.imp _root_.id fun ⟨b, h11, h12⟩ => ⟨b, h11, h12.mono hB⟩⟩

theorem list_owns {e : TypeId} {t : Ty} (h : (Ty.list e t).owns = true) : (t.isList = false ∧ t.flat = true) ∨ ∃ a u, t = .list a u ∧ u.flat = true := by
  cases t <;> simp only [Ty.owns] at h <;> first | exact .inl ⟨rfl, h⟩ | exact .inr ⟨_, _, rfl, h⟩

theorem OwT.mono {B' : Nat → Prop} (hB : ∀ b, B b → B' b) : ∀ {t : Ty} {us : List Value} {x : t.T} {bs : List Nat}, OwT P t w B us x bs → OwT P t w B' us x bs := by
  intro t
  induction t with
  | pair a b iha ihb =>
    intro us x bs h
    obtain ⟨u, v, b1, b2, h1, h2, h3, h4⟩ := h
    exact ⟨u, v, b1, b2, h1, h2, iha h3, ihb h4⟩
  | list e t _ =>
    intro us x bs h
    obtain ⟨v, h1, h2, h3⟩ := h
    refine ⟨v, h1, h2, ?_⟩
    cases hl : t.isList with
    | false =>
      rw [hl] at h3
      exact OwL.mono h3 (.inr hB)
    | true =>
      rw [hl] at h3
      cases t <;> simp only [Ty.isList] at hl <;> first | (cases hl; done) | exact OwD.mono h3 (.inr hB)
  | _ => intro us x bs h; exact ⟨h.1.mono hB, h.2⟩

/-- What can be handed over leans on nothing that is only read. -/
theorem OwT.free {B' : Nat → Prop} : ∀ {t : Ty} {us : List Value} {x : t.T} {bs : List Nat}, t.owns = true → OwT P t w B us x bs → OwT P t w B' us x bs := by
  intro t
  induction t with
  | pair a b iha ihb =>
    intro us x bs ho h
    simp only [Ty.owns, both_true] at ho
    obtain ⟨u, v, b1, b2, h1, h2, h3, h4⟩ := h
    exact ⟨u, v, b1, b2, h1, h2, iha ho.1 h3, ihb ho.2 h4⟩
  | list e t _ =>
    intro us x bs ho h
    obtain ⟨v, h1, h2, h3⟩ := h
    refine ⟨v, h1, h2, ?_⟩
    rcases list_owns ho with ⟨hl, hf⟩ | ⟨a, u, rfl, hf⟩
    · rw [hl] at h3 ⊢
      exact OwL.mono h3 (.inl hf)
    · exact OwD.mono h3 (.inl hf)
  | ptr t _ => intro us x bs ho; cases ho
  | fn1 a r _ _ => intro us x bs ho; cases ho
  | fn2 a b r _ _ _ => intro us x bs ho; cases ho
  | _ => intro us x bs ho h; exact ⟨h.1.flat rfl, h.2⟩

/-- Handed over, out of its cells and their objects. -/
theorem refs_append : ∀ (a b : List C), refs (a ++ b) = refs a ++ refs b := by
  intro a
  induction a with
  | nil => intro b; rfl
  | cons c a ih => intro b; cases c <;> simp [refs, ih]

theorem ownCs_rel (Rl : Rel P B new s tmps w φ β) {σr : Sto} (hσ : ∀ id o, σr id = some o → s.sto id = some o) : ∀ {t : Ty} {cs : List C} {us : List Value} {x : t.T}, CsR P s.sto φ w B cs us → ownCs σr t cs = some x →
    OwT P t w B us x ((refs cs).flatMap β) ∧ ∀ i ∈ refs cs, σr i ≠ none := by
  have leaf : ∀ {t : Ty} {cs : List C} {us : List Value} {x : t.T}, t.isPair = false → t ≠ .unit → CsR P s.sto φ w B cs us → (∃ c, cs = [c] ∧ ownC σr t c = some x) →
      OwT P t w B us x ((refs cs).flatMap β) ∧ ∀ i ∈ refs cs, σr i ≠ none := by
    intro t cs us x ha hu hc ⟨c, e, h⟩
    subst e
    obtain ⟨v, rfl⟩ := List.length_eq_one_iff.1 (by simpa using hc.1)
    have h1 := hc.2.2 0 c v rfl rfl
    have hone := hc.2.1 v (by simp)
    unfold ownC at h
    split at h
    · rename_i a y
      obtain ⟨hf, h⟩ := cond_some h
      obtain ⟨e, rfl⟩ := castT_some h
      subst e
      obtain ⟨us, rfl, hr⟩ := h1
      have hl := hr.len
      refine ⟨?_, by simp [refs]⟩
      have hagg : a.agg = false := by
        cases a <;> first | rfl | (simp [Ty.isPair] at ha; done) | exact absurd rfl hu
      rw [n_one hagg] at hl
      obtain ⟨v, rfl⟩ := List.length_eq_one_iff.1 hl
      rw [mk_one hagg]
      cases a <;> first | exact ⟨hr, rfl⟩ | (cases hf; done) | (simp [Ty.isPair] at ha; done)
    · split at h
      · injection h with h
        subst h
        cases h1
        refine ⟨⟨_, rfl, ⟨_, _, _, rfl⟩, ?_⟩, by simp [refs]⟩
        rename_i e u
        cases hl : u.isList with
        | false => exact .inl ⟨rfl, rfl, rfl⟩
        | true => cases u <;> simp only [Ty.isList] at hl <;> first | (cases hl; done) | exact .inl ⟨rfl, rfl, rfl⟩
      · cases h
    · rename_i id
      split at h
      · rename_i e a m xs hv ho
        replace h := cond_some h
        obtain ⟨hm, h⟩ := h
        have hm := mob_eq hm
        subst hm
        obtain ⟨e1, rfl⟩ := castT_some h
        subst e1
        obtain ⟨v', h2, h3, _⟩ := Rl.obj id _ (hσ _ _ ho)
        rw [h1.1] at h2
        injection h2 with h2
        subst h2
        refine ⟨⟨v, rfl, h1.2, ?_⟩, ?_⟩
        · have e : (refs [C.ref id]).flatMap β = β id := by simp [refs]
          rw [e]
          exact h3
        · intro i hi
          simp [refs] at hi
          subst hi
          rw [ho]
          simp
      · cases h
    · cases h
  intro t
  induction t with
  | unit =>
    intro cs us x hc h
    cases cs with
    | nil =>
      have : us = [] := List.eq_nil_of_length_eq_zero (by simpa using hc.1)
      subst this
      exact ⟨⟨rfl, rfl⟩, by simp [refs]⟩
    | cons c r => simp [ownCs] at h
  | pair a b iha ihb =>
    intro cs us x hc h
    simp only [ownCs] at h
    obtain ⟨y, h1, h2⟩ := ob_some h
    obtain ⟨z, h3, h4⟩ := ob_some h2
    injection h4 with h4
    subst h4
    obtain ⟨q1, q2⟩ := iha (hc.take a.n) h1
    obtain ⟨q3, q4⟩ := ihb (hc.drop a.n) h3
    have e : refs cs = refs (cs.take a.n) ++ refs (cs.drop a.n) := by rw [← refs_append, List.take_append_drop]
    refine ⟨⟨_, _, _, _, (List.take_append_drop a.n us).symm, ?_, q1, q3⟩, fun i hi => ?_⟩
    · rw [e, List.flatMap_append]
    · rw [e] at hi
      rcases List.mem_append.1 hi with h | h
      · exact q2 i h
      · exact q4 i h
  | _ =>
    intro cs us x hc h
    refine leaf rfl (by simp) hc ?_
    match cs, h with
    | [], h => simp [ownCs] at h
    | [c], h => exact ⟨c, rfl, by simpa only [ownCs] using h⟩
    | c :: d :: r, h => simp [ownCs] at h

/-- Objects and cells of data that was handed over. -/
theorem mkOwn_rel : ∀ {t : Ty} {us : List Value} {x : t.T} {bs : List Nat} (d : Nat), OwT P t w B us x bs →
    ∃ N : List NObj, (mkOwn t x d).2.1 = N.map NObj.up ∧ bs = N.flatMap (·.bs) ∧ N.map (·.id) = (List.range' d N.length) ∧ (mkOwn t x d).2.2 = d + N.length ∧ N.length = lists t ∧ (∀ n ∈ N, n.Ok P w B ∧ n.hv = 0) ∧
      ∀ σ φ', (∀ n ∈ N, φ' n.id = some n.hdr) → CsR P σ φ' w B (mkOwn t x d).1 us := by
  have leaf : ∀ {t : Ty} {us : List Value} {x : t.T} {bs : List Nat} (d : Nat), t.isPair = false → t.isList = false → t ≠ .unit → Rd P t w B us x → bs = [] →
      ∃ N : List NObj, (([C.ro t x], ([] : Upd), d) : List C × Upd × Nat).2.1 = N.map NObj.up ∧ bs = N.flatMap (·.bs) ∧ N.map (·.id) = (List.range' d N.length) ∧ d = d + N.length ∧ N.length = 0 ∧ (∀ n ∈ N, n.Ok P w B ∧ n.hv = 0) ∧
        ∀ σ φ', (∀ n ∈ N, φ' n.id = some n.hdr) → CsR P σ φ' w B [C.ro t x] us := by
    intro t us x bs d hp hl hu h hb
    refine ⟨[], rfl, by simp [hb], rfl, rfl, rfl, by simp, fun σ φ' _ => ?_⟩
    have hagg : t.agg = false := by
      cases t <;> first | rfl | (simp [Ty.isPair] at hp; done) | exact absurd rfl hu
    have hlen := h.len
    rw [n_one hagg] at hlen
    obtain ⟨v, rfl⟩ := List.length_eq_one_iff.1 hlen
    exact CsR.single ⟨[v], (mk_one hagg v).symm, h⟩ (h.one v (by simp))
  intro t
  induction t with
  | unit =>
    intro us x bs d h
    obtain ⟨h1, rfl⟩ := h
    cases h1
    exact ⟨[], rfl, rfl, rfl, rfl, rfl, by simp, fun σ φ' _ => CsR.nil⟩
  | pair a b iha ihb =>
    intro us x bs d h
    obtain ⟨u, v, b1, b2, rfl, rfl, h1, h2⟩ := h
    obtain ⟨N1, p1, p2, p3, p4, p5, p6, p7⟩ := iha d h1
    obtain ⟨N2, q1, q2, q3, q4, q5, q6, q7⟩ := ihb (mkOwn a x.1 d).2.2 h2
    refine ⟨N1 ++ N2, ?_, ?_, ?_, ?_, ?_, fun n hn => ?_, fun σ φ' hφ => ?_⟩
    · simp only [mkOwn, p1, q1, List.map_append]
    · rw [List.flatMap_append, ← p2, ← q2]
    · rw [List.map_append, p3, q3, p4, List.length_append, List.range'_append_1]
    · show (mkOwn b x.2 (mkOwn a x.1 d).2.2).2.2 = _
      rw [q4, p4, List.length_append]; omega
    · simp [lists, p5, q5]
    · rcases List.mem_append.1 hn with h | h
      · exact p6 n h
      · exact q6 n h
    · simp only [mkOwn]
      exact (p7 σ φ' fun n hn => hφ n (List.mem_append_left _ hn)).append (q7 σ φ' fun n hn => hφ n (List.mem_append_right _ hn))
  | list e t _ =>
    intro us x bs d h
    obtain ⟨v, rfl, hs, h3⟩ := h
    refine ⟨[⟨d, e, t, cond t.isList .deep .own, x, 0, v, bs⟩], rfl, (List.append_nil bs).symm, rfl, rfl, rfl, fun n hn => ?_, fun σ φ' hφ => ?_⟩
    · simp at hn
      subst hn
      exact ⟨⟨h3, hs⟩, rfl⟩
    · obtain ⟨A, n, c, rfl⟩ := hs
      exact CsR.single ⟨hφ _ (List.mem_singleton.2 rfl), _, _, _, rfl⟩ rfl
  | int k => intro us x bs d h; exact leaf d rfl rfl (by simp) h.1 h.2
  | bool => intro us x bs d h; exact leaf d rfl rfl (by simp) h.1 h.2
  | str => intro us x bs d h; exact leaf d rfl rfl (by simp) h.1 h.2
  | ptr t => intro us x bs d h; exact leaf d rfl rfl (by simp) h.1 h.2
  | fn1 a r => intro us x bs d h; exact leaf d rfl rfl (by simp) h.1 h.2
  | fn2 a b r => intro us x bs d h; exact leaf d rfl rfl (by simp) h.1 h.2
end

/-! ### Contracts -/
def ArgsR (P : Program) (w : World) (B : Nat → Prop) : (ps : List (Mode × Ty)) → List Value → argsT ps → List Nat → Prop
  | [], [], _, bs => bs = []
  | (m, t) :: ps, v :: vs, x, bs => ∃ us b1 b2, v = t.mk us ∧ bs = b1 ++ b2 ∧ (m = .ro ∧ Rd P t w B us x.1 ∧ b1 = [] ∨ m ≠ .ro ∧ t.owns = true ∧ OwT P t w B us x.1 b1) ∧ ArgsR P w B ps vs x.2 b2
  | _, _, _, _ => False
def ResR (P : Program) (w : World) (B : Nat → Prop) : (rs : List (Bool × Ty)) → List Value → resT rs → List Nat → Prop
  | [], [], _, bs => bs = []
  | (o, t) :: rs, v :: vs, x, bs => ∃ us b1 b2, v = t.mk us ∧ bs = b1 ++ b2 ∧ (o = false ∧ Rd P t w B us x.1 ∧ b1 = [] ∨ o = true ∧ OwT P t w B us x.1 b1) ∧ ResR P w B rs vs x.2 b2
  | _, _, _, _ => False
def MutR (P : Program) (w : World) (B : Nat → Prop) : (ps : List (Mode × Ty)) → List Value → mutT ps → List Nat → Prop
  | [], _, _, bs => bs = []
  | (.mut, t) :: ps, vs, x, bs => ∃ v us b1 b2, vs.head? = some v ∧ v = t.mk us ∧ bs = b1 ++ b2 ∧ OwT P t w B us x.1 b1 ∧ MutR P w B ps vs.tail x.2 b2
  | (.ro, _) :: ps, vs, x, bs => MutR P w B ps vs.tail x bs
  | (.own, _) :: ps, vs, x, bs => MutR P w B ps vs.tail x bs

def retV : List Value → Value
  | [v] => v
  | vs => .tuple vs.toArray

/-- What a function does. -/
def PC (P : Program) (f : FuncId) (F : FSum) : Prop := Ent P f ∧
  ∀ (w : World) (B : Nat → Prop) (vals : List Value) (x : argsT F.ps) (bs : List Nat) (y : resT F.rs × mutT F.ps), ArgsR P w B F.ps vals x bs → bs.Nodup → (∀ b ∈ bs, ¬ B b ∧ b < w.heap.size) → (∀ b, B b → b < w.heap.size) →
    F.f x = some y → Calls P f vals.toArray w fun e w' => ∃ us B' rbs mbs, e = .returned (retV us) ∧ ResR P w' B' F.rs us y.1 rbs ∧ MutR P w' B' F.ps vals y.2 mbs ∧ Fr w w' (fun b => b ∉ bs) ∧ (rbs ++ mbs).Nodup ∧
      (∀ b ∈ rbs ++ mbs, ¬ B' b ∧ b < w'.heap.size ∧ (w.heap.size ≤ b ∨ b ∈ bs)) ∧ (∀ b, B b → B' b) ∧ (∀ b, B' b → b < w'.heap.size ∧ (B b ∨ w.heap.size ≤ b ∨ b ∈ bs))

def GOk (P : Program) (G : GTab) : Prop := ∀ f F, G f = some F → PC P f F
end Go.PV
