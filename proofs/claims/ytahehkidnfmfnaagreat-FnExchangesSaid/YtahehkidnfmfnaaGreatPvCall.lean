/- Contracts of functions, and calls. -/
import Derived.Test.YtahehkidnfmfnaaGreatPvAdopt
set_option linter.all false
namespace Go.PV
open Go

section
variable {P : Program} {Γ : Tab} {G : GTab} {B : Nat → Prop} {new : Id → Prop} {s : St} {tmps : Array Value} {w : World} {φ : Hd} {β : Bl} {R : Type} {r : R}

theorem OwL.mono {t : Ty} {v : Value} {xs : List t.T} {bs : List Nat} {B' : Nat → Prop} (h : OwL P t w B v xs bs) (hB : t.flat = true ∨ ∀ b, B b → B' b) : OwL P t w B' v xs bs := by
  rcases h with h | ⟨g, o, c, cur, e, h1, h2, h3, h4, h5, h6⟩
  · exact .inl h
  · refine .inr ⟨g, o, c, cur, e, h1, h2, h3, h4, h5, fun i hi => ?_⟩
    obtain ⟨us, h7, h8, h9⟩ := h6 i hi
    rcases hB with hB | hB
    · exact ⟨us, h7, h8, h9.flat hB⟩
    · exact ⟨us, h7, h8, h9.mono hB⟩
theorem OwD.mono {t : Ty} {v : Value} {xs : List (List t.T)} {hole : Option Int} {bs : List Nat} {B' : Nat → Prop} (h : OwD P t w B v xs hole bs) (hB : t.flat = true ∨ ∀ b, B b → B' b) : OwD P t w B' v xs hole bs := by
  rcases h with h | ⟨g, o, c, cur, e, bss, h1, h2, h3, h4, h5, h6, h7⟩
  · exact .inl h
  · refine .inr ⟨g, o, c, cur, e, bss, h1, h2, h3, h4, h5, h6, fun i hi => ?_⟩
    obtain ⟨u, h8, h9, h10⟩ := h7 i hi
    exact ⟨u, h8, h9, h10.imp _root_.id fun ⟨b, h11, h12⟩ => ⟨b, h11, h12.mono hB⟩⟩

theorem list_owns {e : TypeId} {t : Ty} (h : (Ty.list e t).owns = true) : (t.isList = false ∧ t.flat = true) ∨ ∃ a u, t = .list a u ∧ u.flat = true := by
  cases t <;> simp only [Ty.owns] at h <;> first | exact .inl ⟨rfl, h⟩ | exact .inr ⟨_, _, rfl, h⟩

theorem OwT.mono {B' : Nat → Prop} (hB : ∀ b, B b → B' b) : ∀ {t : Ty} {us : List Value} {x : t.T} {bs : List Nat}, OwT P t w B us x bs → OwT P t w B' us x bs := by
  intro t
  induction t with
  | pair a b iha ihb =>
    intro us x bs h
    obtain ⟨u, v, b1, b2, h1, h2, h3, h4⟩ := h
    exact ⟨u, v, b1, b2, h1, h2, iha h3, ihb h4⟩
  | list e t _ =>
    intro us x bs h
    obtain ⟨v, h1, h2, h3⟩ := h
    refine ⟨v, h1, h2, ?_⟩
    cases hl : t.isList with
    | false =>
      rw [hl] at h3
      exact OwL.mono h3 (.inr hB)
    | true =>
      rw [hl] at h3
      cases t <;> simp only [Ty.isList] at hl <;> first | (cases hl; done) | exact OwD.mono h3 (.inr hB)
  | rows e t _ =>
    intro us x bs h
    obtain ⟨v, h1, h2, h3⟩ := h
    exact ⟨v, h1, h2, OwL.mono h3 (.inr hB)⟩
  | mptr t ih =>
    intro us x bs h
    obtain ⟨g, cur, e, b, h1, h2, h3, h4⟩ := h
    exact ⟨g, cur, e, b, h1, h2, ih h3, h4⟩
  | kclo f t ih =>
    intro us x bs h
    obtain ⟨vs, h1, h2⟩ := h
    exact ⟨vs, h1, ih h2⟩
  | _ => intro us x bs h; exact ⟨h.1.mono hB, h.2⟩

theorem OwT.free {B' : Nat → Prop} : ∀ {t : Ty} {us : List Value} {x : t.T} {bs : List Nat}, t.owns = true → OwT P t w B us x bs → OwT P t w B' us x bs := by
  intro t
  induction t with
  | pair a b iha ihb =>
    intro us x bs ho h
    simp only [Ty.owns, both_true] at ho
    obtain ⟨u, v, b1, b2, h1, h2, h3, h4⟩ := h
    exact ⟨u, v, b1, b2, h1, h2, iha ho.1 h3, ihb ho.2 h4⟩
  | list e t _ =>
    intro us x bs ho h
    obtain ⟨v, h1, h2, h3⟩ := h
    refine ⟨v, h1, h2, ?_⟩
    rcases list_owns ho with ⟨hl, hf⟩ | ⟨a, u, rfl, hf⟩
    · rw [hl] at h3 ⊢
      exact OwL.mono h3 (.inl hf)
    · exact OwD.mono h3 (.inl hf)
  | ptr t _ => intro us x bs ho; cases ho
  | fn1 a r _ _ => intro us x bs ho; cases ho
  | fn2 a b r _ _ _ => intro us x bs ho; cases ho
  | rows e t _ => intro us x bs ho; cases ho
  | mptr t _ => intro us x bs ho; cases ho
  | kclo f t _ => intro us x bs ho; cases ho
  | sptr f k => intro us x bs ho; cases ho
  | rol e t _ => intro us x bs ho; cases ho
  | _ => intro us x bs ho h; exact ⟨h.1.flat rfl, h.2⟩

theorem OwT.rd {B' : Nat → Prop} (hB : ∀ b, B b → B' b) : ∀ {t : Ty} {us : List Value} {x : t.T} {bs : List Nat}, t.owns = true → OwT P t w B us x bs → (∀ b ∈ bs, B' b) → Rd P t w B' us x := by
  intro t
  induction t with
  | pair a b iha ihb =>
    intro us x bs ho h hb
    simp only [Ty.owns, both_true] at ho
    obtain ⟨u, v, b1, b2, h1, h2, h3, h4⟩ := h
    exact ⟨u, v, h1, iha ho.1 h3 fun b hm => hb b (by rw [h2]; exact List.mem_append_left _ hm), ihb ho.2 h4 fun b hm => hb b (by rw [h2]; exact List.mem_append_right _ hm)⟩
  | list e t _ =>
    intro us x bs ho h hb
    obtain ⟨v, rfl, h2, h3⟩ := h
    exact Ow.rd h3 e hB hb
  | ptr t _ => intro us x bs ho; cases ho
  | fn1 a r _ _ => intro us x bs ho; cases ho
  | fn2 a b r _ _ _ => intro us x bs ho; cases ho
  | rows e t _ => intro us x bs ho; cases ho
  | mptr t _ => intro us x bs ho; cases ho
  | kclo f t _ => intro us x bs ho; cases ho
  | sptr f k => intro us x bs ho; cases ho
  | rol e t _ => intro us x bs ho; cases ho
  | _ => intro us x bs ho h hb; exact h.1.mono hB

theorem asPtr_rel {σ0 σ : Sto} (O : Obs P σ0 σ φ β w B) (hσ : ∀ id o, σ id = some o → σ0 id = some o) {t : Ty} {c : C} {v : Value} {x : t.T} (hv : CR P σ0 φ w B c v) (h : asPtr σ t c = some x) :
    ∃ us, v = (Ty.ptr t).mk us ∧ Rd P (.ptr t) w (Bx σ β B) us x := by
  unfold asPtr at h
  split at h
  · rename_i a y
    obtain ⟨us, rfl, hr⟩ := hv
    obtain ⟨e, rfl⟩ := castT_some h
    subst e
    exact ⟨us, rfl, hr.mono fun b hb => .inl hb⟩
  · rename_i id
    split at h
    · rename_i cs ho
      obtain ⟨hn, h⟩ := cond_some h
      have hn := beq_eq hn
      obtain ⟨g, h1, rfl⟩ := hv
      obtain ⟨v', h2, g', cur, e, h3, h4, h5, h6⟩ := O id _ ho
      rw [h1] at h2
      injection h2 with h2
      subst h2
      injection h3 with h3
      injection h3 with h3
      injection h3 with h3
      subst h3
      refine ⟨[.pointer (some ⟨g, 0, none⟩)], rfl, g, cur.toList, rfl, .inr ⟨id, by rw [ho]; simp, by rw [h5]; simp⟩, by rw [h6.1, hn], fun j hj => ?_, asCs_rel O hσ h6 h⟩
      rw [cell_of_heap h4, Nat.zero_add, ← Array.getElem?_toList]
      exact List.getElem?_eq_getElem hj
    · rename_i a y ho
      obtain ⟨how, h⟩ := cond_some h
      obtain ⟨e, rfl⟩ := castT_some h
      subst e
      obtain ⟨g, h1, rfl⟩ := hv
      obtain ⟨v', h2, g', cur, e, b, h3, h4, h5, h6⟩ := O id _ ho
      rw [h1] at h2
      injection h2 with h2
      subst h2
      injection h3 with h3 _
      injection h3 with h3
      injection h3 with h3
      injection h3 with h3
      subst h3
      have hin : ∀ x ∈ β id, Bx σ β B x := fun x hx => .inr ⟨id, by rw [ho]; simp, hx⟩
      refine ⟨[.pointer (some ⟨g, 0, none⟩)], rfl, g, cur.toList, rfl, hin g (by rw [h6]; simp), h5.len, fun j hj => ?_, h5.rd (fun b hb => .inl hb) how fun x hx => hin x (by rw [h6]; exact List.mem_cons_of_mem _ hx)⟩
      rw [cell_of_heap h4, Nat.zero_add, ← Array.getElem?_toList]
      exact List.getElem?_eq_getElem hj
    · cases h
  · cases h

theorem clo_cs {σ : Sto} {f : FuncId} {caps : List Cap} {v : Value} (h : CloR P φ w B f caps v) : ∃ vs : List Value, v = .func (.func f) #[] vs.toArray ∧ CsR P σ φ w B (caps.map (Cap.c f caps)) vs := by
  have h0 := h
  obtain ⟨vs, rfl, h2, h3, h4⟩ := h
  refine ⟨vs, rfl, by simp [h2], h3, fun i c u hc hu => ?_⟩
  rw [List.getElem?_map] at hc
  cases hq : caps[i]? with
  | none => rw [hq] at hc; cases hc
  | some k =>
    rw [hq] at hc
    injection hc with hc
    subst hc
    have := h4 i k u hq hu
    cases k with
    | id j => obtain ⟨h5, g, rfl⟩ := this; exact ⟨g, h5, rfl⟩
    | ro t x => exact ⟨[u], rfl, this⟩
    | me => obtain ⟨g, h5, h6, h7⟩ := this; exact ⟨g, _, h5, h6, h7, h0⟩
    | bad => trivial

theorem cs_clo {σ : Sto} {f : FuncId} {cs : List C} {vs : List Value} (h : CsR P σ φ w B cs vs) : CloR P φ w B f (cs.map Cap.of) (.func (.func f) #[] vs.toArray) := by
  refine ⟨vs, rfl, by simp [h.1], h.2.1, fun i c u hc hu => ?_⟩
  rw [List.getElem?_map] at hc
  cases hq : cs[i]? with
  | none => rw [hq] at hc; cases hc
  | some k =>
    rw [hq] at hc
    injection hc with hc
    subst hc
    have := h.2.2 i k u hq hu
    unfold Cap.of
    split
    · obtain ⟨g, h1, rfl⟩ := this
      exact ⟨h1, g, rfl⟩
    · obtain ⟨us, h1, h2⟩ := this
      have h3 := h2
      obtain ⟨g, us', rfl, _⟩ := h2
      subst h1
      exact h3
    · trivial

theorem ownC_list (Rl : Rel P B new s tmps w φ β) {σr : Sto} (hσ : ∀ id o, σr id = some o → s.sto id = some o) {sb : Bool} {e : TypeId} {t : Ty} {c : C} {v : Value} {x : (Ty.list e t).T} (h1 : CR P s.sto φ w B c v) (h : ownC σr sb (.list e t) c = some x) :
    OwT P (.list e t) w B [v] x ((refC c).flatMap β) ∧ ∀ i ∈ refC c, σr i ≠ none := by
  unfold ownC at h
  split at h
  · rename_i a y
    obtain ⟨hf, h⟩ := cond_some h
    obtain ⟨e1, _⟩ := castT_some h
    subst e1
    cases hf
  · injection h with h
    subst h
    cases h1
    refine ⟨⟨_, rfl, ⟨_, _, _, rfl⟩, ?_⟩, by simp [refC]⟩
    cases hl : t.isList with
    | false => exact .inl ⟨rfl, rfl, rfl⟩
    | true => cases t <;> simp only [Ty.isList] at hl <;> first | (cases hl; done) | exact .inl ⟨rfl, rfl, rfl⟩
  · rename_i id
    split at h
    · rename_i e' a m xs hv ho
      replace h := cond_some h
      obtain ⟨hm, h⟩ := h
      have hm := mob_eq hm
      subst hm
      obtain ⟨e1, rfl⟩ := castT_some h
      injection e1 with e1 e2
      subst e1
      subst e2
      obtain ⟨v', h2, h3, _⟩ := Rl.obj id _ (hσ _ _ ho)
      rw [h1.1] at h2
      injection h2 with h2
      subst h2
      refine ⟨⟨v, rfl, h1.2, ?_⟩, ?_⟩
      · have e : (refC (C.ref id)).flatMap β = β id := by simp [refC]
        rw [e]
        exact h3
      · intro i hi
        simp [refC] at hi
        subst hi
        rw [ho]
        simp
    · cases h
  · rename_i id sz lo hi
    split at h
    · rename_i e' a xs hv ho
      obtain ⟨hb, h⟩ := cond_some h
      have hnl := no_true.1 (both_true.1 hb).2
      obtain ⟨e1, rfl⟩ := castT_some h
      injection e1 with e1 e2
      subst e1
      subst e2
      obtain ⟨A, n, c, A', hφ, k0, k1, k2, k3, k4, k5, rfl⟩ := h1
      obtain ⟨v', h2, h3, _⟩ := Rl.obj id _ (hσ _ _ ho)
      rw [hφ] at h2
      injection h2 with h2
      subst h2
      refine ⟨⟨_, rfl, ⟨_, _, _, rfl⟩, ?_⟩, ?_⟩
      · have e : (refC (C.sub id sz lo hi)).flatMap β = β id := by simp [refC]
        rw [e, hnl]
        exact OwL.cut (show OwL P _ w B _ xs (β id) from h3) k0 k1 k2 (k4 _ _ _ _ _ _ (hσ _ _ ho)) k5
      · intro i hi
        simp [refC] at hi
        subst hi
        rw [ho]
        simp
    · cases h
  · cases h

theorem ownC_flat {σr : Sto} {sb : Bool} {t : Ty} {c : C} {v : Value} {x : t.T} (ht : t.isList = false) (ha : t.agg = false) (h1 : CR P s.sto φ w B c v) (h : ownC σr sb t c = some x) : t.flat = true ∧ Rd P t w B [v] x := by
  unfold ownC at h
  split at h
  · rename_i a y
    obtain ⟨hf, h⟩ := cond_some h
    obtain ⟨e, rfl⟩ := castT_some h
    subst e
    obtain ⟨us, rfl, hr⟩ := h1
    have hl := hr.len
    rw [n_one ha] at hl
    obtain ⟨v, rfl⟩ := List.length_eq_one_iff.1 hl
    rw [mk_one ha]
    exact ⟨hf, hr⟩
  · split at h
    · cases ht
    · cases h
  · split at h
    · obtain ⟨_, h⟩ := cond_some h
      obtain ⟨e, _⟩ := castT_some h
      subst e
      cases ht
    · cases h
  · split at h
    · obtain ⟨_, h⟩ := cond_some h
      obtain ⟨e, _⟩ := castT_some h
      subst e
      cases ht
    · cases h
  · cases h

theorem ownCs_rel (Rl : Rel P B new s tmps w φ β) {σr σ' : Sto} (hσ : ∀ id o, σr id = some o → s.sto id = some o) (hσ' : ∀ id o, σ' id = some o → s.sto id = some o) {Bc : Nat → Prop} (hB : ∀ b, Bx σ' β B b → Bc b) :
    ∀ {t : Ty} {sb : Bool} {cs : List C} {us : List Value} {x : t.T}, CsR P s.sto φ w B cs us → ownCs σr σ' sb t cs = some x → OwT P t w Bc us x ((refs σr t cs).flatMap β) ∧ ∀ i ∈ refs σr t cs, σr i ≠ none := by
  have hB0 : ∀ b, B b → Bc b := fun b hb => hB b (.inl hb)
  have one : ∀ {cs : List C} {us : List Value}, CsR P s.sto φ w B cs us → ∀ c, cs = [c] → ∃ v, us = [v] ∧ CR P s.sto φ w B c v := fun {cs us} hc c e => by
    subst e
    obtain ⟨v, rfl⟩ := List.length_eq_one_iff.1 (by simpa using hc.1)
    exact ⟨v, rfl, hc.2.2 0 c v rfl rfl⟩
  have leaf : ∀ {t : Ty} {sb : Bool} {cs : List C} {us : List Value} {x : t.T}, t.isList = false → t.agg = false → CsR P s.sto φ w B cs us → (∃ c, cs = [c] ∧ ownC σr sb t c = some x) → t.flat = true ∧ Rd P t w Bc us x := by
    intro t sb cs us x hl ha hc ⟨c, e, h⟩
    obtain ⟨v, rfl, h1⟩ := one hc c e
    obtain ⟨h2, h3⟩ := ownC_flat hl ha h1 h
    exact ⟨h2, h3.mono hB0⟩
  intro t
  induction t with
  | unit =>
    intro sb cs us x hc h
    cases cs with
    | nil =>
      have : us = [] := List.eq_nil_of_length_eq_zero (by simpa using hc.1)
      subst this
      exact ⟨⟨rfl, rfl⟩, by simp [refs]⟩
    | cons c r => simp [ownCs] at h
  | pair a b iha ihb =>
    intro sb cs us x hc h
    simp only [ownCs] at h
    obtain ⟨y, h1, h2⟩ := ob_some h
    obtain ⟨z, h3, h4⟩ := ob_some h2
    injection h4 with h4
    subst h4
    obtain ⟨q1, q2⟩ := iha (hc.take a.n) h1
    obtain ⟨q3, q4⟩ := ihb (hc.drop a.n) h3
    refine ⟨⟨_, _, _, _, (List.take_append_drop a.n us).symm, ?_, q1, q3⟩, fun i hi => ?_⟩
    · show (refs σr a _ ++ refs σr b _).flatMap β = _
      rw [List.flatMap_append]
    · rcases List.mem_append.1 (show i ∈ refs σr a _ ++ refs σr b _ from hi) with h | h
      · exact q2 i h
      · exact q4 i h
  | list e t _ =>
    intro sb cs us x hc h
    match cs, h with
    | [], h => simp [ownCs] at h
    | c :: d :: r, h => simp [ownCs] at h
    | [c], h =>
      obtain ⟨v, rfl, h1⟩ := one hc c rfl
      obtain ⟨h2, h3⟩ := ownC_list Rl hσ h1 (by simpa only [ownCs] using h)
      exact ⟨h2.mono hB0, h3⟩
  | rows e t _ =>
    intro sb cs us x hc h
    match cs, h with
    | [], h => simp [ownCs] at h
    | c :: d :: r, h => simp [ownCs] at h
    | [c], h =>
      obtain ⟨v, rfl, h1⟩ := one hc c rfl
      simp only [ownCs, ownRows] at h
      split at h
      · injection h with h
        subst h
        cases h1
        exact ⟨⟨_, rfl, ⟨_, _, _, rfl⟩, .inl ⟨rfl, rfl, by simp [refs, refC]⟩⟩, by simp [refs, refC]⟩
      · rename_i id
        split at h
        · rename_i e' a xs hv ho
          obtain ⟨e1, rfl⟩ := castT_some h
          injection e1 with e1 e2
          subst e1
          subst e2
          obtain ⟨v', h2, h3, _⟩ := Rl.obj id _ (hσ _ _ ho)
          rw [h1.1] at h2
          injection h2 with h2
          subst h2
          refine ⟨⟨v, rfl, h1.2, ?_⟩, fun i hi => ?_⟩
          · have e : (refs σr (Ty.rows e' a) [C.ref id]).flatMap β = β id := by simp [refs, refC]
            rw [e]
            exact OwL.mono (show OwL P _ w B v xs (β id) from h3) (.inr hB0)
          · simp [refs, refC] at hi
            subst hi
            rw [ho]
            simp
        · cases h
      · rename_i id sz lo hi
        split at h
        · rename_i e' a xs hv ho
          obtain ⟨hb, h⟩ := cond_some h
          obtain ⟨e1, rfl⟩ := castT_some h
          injection e1 with e1 e2
          subst e1
          subst e2
          obtain ⟨A, n, c, A', hφ, k0, k1, k2, k3, k4, k5, rfl⟩ := h1
          obtain ⟨v', h2, h3, _⟩ := Rl.obj id _ (hσ _ _ ho)
          rw [hφ] at h2
          injection h2 with h2
          subst h2
          refine ⟨⟨_, rfl, ⟨_, _, _, rfl⟩, ?_⟩, ?_⟩
          · have e : (refs σr (Ty.rows e' a) [C.sub id sz lo hi]).flatMap β = β id := by simp [refs, refC]
            rw [e]
            exact OwL.mono (OwL.cut (show OwL P _ w B _ xs (β id) from h3) k0 k1 k2 (k4 _ _ _ _ _ _ (hσ _ _ ho)) k5) (.inr hB0)
          · intro i hi
            simp [refs, refC] at hi
            subst hi
            rw [ho]
            simp
        · cases h
      · cases h
  | ptr t _ =>
    intro sb cs us x hc h
    match cs, h with
    | [], h => simp [ownCs] at h
    | c :: d :: r, h => simp [ownCs] at h
    | [c], h =>
      obtain ⟨v, rfl, h1⟩ := one hc c rfl
      have key : ∃ us, v = (Ty.ptr t).mk us ∧ Rd P (.ptr t) w Bc us x := by
        simp only [ownCs, ownPtr] at h
        split at h
        · obtain ⟨us, h2, h3⟩ := asPtr_rel (Rl.obs hσ') hσ' h1 h
          exact ⟨us, h2, h3.mono hB⟩
        · obtain ⟨us, h2, h3⟩ := h1
          obtain ⟨e1, rfl⟩ := castT_some h
          subst e1
          exact ⟨us, h2, h3.mono hB0⟩
        · cases h
      obtain ⟨us, h2, h3⟩ := key
      have h4 := h3
      obtain ⟨g, us', rfl, _⟩ := h3
      subst h2
      exact ⟨⟨h4, by simp [refs]⟩, by simp [refs]⟩
  | rol e t _ =>
    intro sb cs us x hc h
    match cs, h with
    | [], h => simp [ownCs] at h
    | c :: d :: r, h => simp [ownCs] at h
    | [c], h =>
      obtain ⟨v, rfl, h1⟩ := one hc c rfl
      simp only [ownCs] at h
      obtain ⟨us, h2, h3⟩ := asT_rel (Rl.obs hσ') hσ' (v := .one c) (t := .list e t) h1 h
      have h4 := h3.mono hB
      obtain ⟨A, c', rfl, _⟩ := h3
      subst h2
      exact ⟨⟨h4, by simp [refs]⟩, by simp [refs]⟩
  | mptr t ih =>
    intro sb cs us x hc h
    match cs, h with
    | [], h => simp [ownCs] at h
    | c :: d :: r, h => cases c <;> simp [ownCs] at h
    | [c], h =>
      by_cases hca : ∃ id off, c = .adr id off
      case neg =>
        have h' : ownC σr sb (.mptr t) c = some x := by
          cases c <;> first | exact absurd ⟨_, _, rfl⟩ hca | simpa only [ownCs] using h
        exact absurd (leaf rfl rfl hc ⟨c, rfl, h'⟩).1 (by simp [Ty.flat])
      obtain ⟨id, off, rfl⟩ := hca
      simp only [ownCs] at h
      obtain ⟨v, rfl, h1⟩ := one hc _ rfl
      obtain ⟨hz, h'⟩ := cond_some h
      clear h
      have hz := beq_eq hz
      subst hz
      have h := h'
      clear h'
      obtain ⟨g, h2, rfl⟩ := h1
      split at h
      · rename_i cs2 ho
        obtain ⟨hn, hK⟩ := cond_some h
        obtain ⟨v', h3, ⟨g', cur, e, h4, h5, h6, h7⟩, _⟩ := Rl.obj id _ (hσ _ _ ho)
        rw [h2] at h3
        injection h3 with h3
        subst h3
        injection h4 with h4
        injection h4 with h4
        injection h4 with h4
        subst h4
        obtain ⟨q1, q2⟩ := ih h7 hK
        refine ⟨⟨g, cur, e, _, rfl, h5, q1, ?_⟩, fun i hi => ?_⟩
        · simp [refs, ho, h6]
        · simp only [refs, ho] at hi
          rcases List.mem_cons.1 hi with rfl | hi
          · rw [ho]; simp
          · exact q2 i hi
      · rename_i a y ho
        obtain ⟨e1, rfl⟩ := castT_some h
        subst e1
        obtain ⟨v', h3, h4, _⟩ := Rl.obj id _ (hσ _ _ ho)
        rw [h2] at h3
        injection h3 with h3
        subst h3
        refine ⟨?_, fun i hi => ?_⟩
        · have e : (refs σr (Ty.mptr a) [C.adr id 0]).flatMap β = β id := by simp [refs, ho]
          rw [e]
          exact OwT.mono hB0 h4
        · simp [refs, ho] at hi
          subst hi
          rw [ho]
          simp
      · cases h
  | kclo f t ih =>
    intro sb cs us x hc h
    match cs, h with
    | [], h => simp [ownCs] at h
    | c :: d :: r, h => cases c <;> simp [ownCs] at h
    | [c], h =>
      by_cases hca : ∃ f' caps, c = .clo f' caps
      case neg =>
        have h' : ownC σr sb (.kclo f t) c = some x := by
          cases c <;> first | exact absurd ⟨_, _, rfl⟩ hca | simpa only [ownCs] using h
        exact absurd (leaf rfl rfl hc ⟨c, rfl, h'⟩).1 (by simp [Ty.flat])
      obtain ⟨f', caps, rfl⟩ := hca
      simp only [ownCs] at h
      obtain ⟨v, rfl, h1⟩ := one hc _ rfl
      obtain ⟨hz, h'⟩ := cond_some h
      clear h
      obtain ⟨hz1, hz2⟩ := both_true.1 hz
      have hz1 := beq_eq hz1
      clear hz
      subst hz1
      have h := h'
      clear h'
      obtain ⟨vs, rfl, h2⟩ := clo_cs (σ := s.sto) h1
      obtain ⟨q1, q2⟩ := ih h2 h
      exact ⟨⟨vs, rfl, q1⟩, q2⟩
  | fn1 a r _ _ =>
    intro sb cs us x hc h
    match cs, h with
    | [], h => simp [ownCs] at h
    | c :: d :: r, h => simp [ownCs] at h
    | [c], h => exact absurd (leaf rfl rfl hc ⟨c, rfl, by simpa only [ownCs] using h⟩).1 (by simp [Ty.flat])
  | fn2 a b r _ _ _ =>
    intro sb cs us x hc h
    match cs, h with
    | [], h => simp [ownCs] at h
    | c :: d :: r, h => simp [ownCs] at h
    | [c], h => exact absurd (leaf rfl rfl hc ⟨c, rfl, by simpa only [ownCs] using h⟩).1 (by simp [Ty.flat])
  | sptr f k =>
    intro sb cs us x hc h
    match cs, h with
    | [], h => simp [ownCs] at h
    | c :: d :: r, h => simp [ownCs] at h
    | [c], h => exact absurd (leaf rfl rfl hc ⟨c, rfl, by simpa only [ownCs] using h⟩).1 (by simp [Ty.flat])
  | _ =>
    intro sb cs us x hc h
    match cs, h with
    | [], h => simp [ownCs] at h
    | c :: d :: r, h => simp [ownCs] at h
    | [c], h => exact ⟨⟨(leaf rfl rfl hc ⟨c, rfl, by simpa only [ownCs] using h⟩).2, by simp [refs]⟩, by simp [refs]⟩

theorem mkOwn_rel : ∀ {t : Ty} {us : List Value} {x : t.T} {bs : List Nat} (d : Nat), OwT P t w B us x bs →
    ∃ N : List NObj, (mkOwn t x d).2.1 = N.map NObj.up ∧ bs = N.flatMap (·.bs) ∧ N.map (·.id) = (List.range' d N.length) ∧ (mkOwn t x d).2.2 = d + N.length ∧ N.length = lists t ∧ (∀ n ∈ N, n.Ok P w B) ∧
      ∀ σ φ', (∀ n ∈ N, φ' n.id = some n.hdr) → CsR P σ φ' w B (mkOwn t x d).1 us := by
  have leaf : ∀ {t : Ty} {us : List Value} {x : t.T} {bs : List Nat} (d : Nat), t.agg = false → Rd P t w B us x → bs = [] →
      ∃ N : List NObj, (([C.ro t x], ([] : Upd), d) : List C × Upd × Nat).2.1 = N.map NObj.up ∧ bs = N.flatMap (·.bs) ∧ N.map (·.id) = (List.range' d N.length) ∧ d = d + N.length ∧ N.length = 0 ∧ (∀ n ∈ N, n.Ok P w B) ∧
        ∀ σ φ', (∀ n ∈ N, φ' n.id = some n.hdr) → CsR P σ φ' w B [C.ro t x] us := by
    intro t us x bs d hagg h hb
    refine ⟨[], rfl, by simp [hb], rfl, rfl, rfl, by simp, fun σ φ' _ => ?_⟩
    have hlen := h.len
    rw [n_one hagg] at hlen
    obtain ⟨v, rfl⟩ := List.length_eq_one_iff.1 hlen
    exact CsR.single ⟨[v], (mk_one hagg v).symm, h⟩ (h.one v (by simp))
  intro t
  induction t with
  | unit =>
    intro us x bs d h
    obtain ⟨h1, rfl⟩ := h
    cases h1
    exact ⟨[], rfl, rfl, rfl, rfl, rfl, by simp, fun σ φ' _ => CsR.nil⟩
  | pair a b iha ihb =>
    intro us x bs d h
    obtain ⟨u, v, b1, b2, rfl, rfl, h1, h2⟩ := h
    obtain ⟨N1, p1, p2, p3, p4, p5, p6, p7⟩ := iha d h1
    obtain ⟨N2, q1, q2, q3, q4, q5, q6, q7⟩ := ihb (mkOwn a x.1 d).2.2 h2
    refine ⟨N1 ++ N2, ?_, ?_, ?_, ?_, ?_, fun n hn => ?_, fun σ φ' hφ => ?_⟩
    · simp only [mkOwn, p1, q1, List.map_append]
    · rw [List.flatMap_append, ← p2, ← q2]
    · rw [List.map_append, p3, q3, p4, List.length_append, List.range'_append_1]
    · show (mkOwn b x.2 (mkOwn a x.1 d).2.2).2.2 = _
      rw [q4, p4, List.length_append]; omega
    · simp [lists, p5, q5]
    · rcases List.mem_append.1 hn with h | h
      · exact p6 n h
      · exact q6 n h
    · simp only [mkOwn]
      exact (p7 σ φ' fun n hn => hφ n (List.mem_append_left _ hn)).append (q7 σ φ' fun n hn => hφ n (List.mem_append_right _ hn))
  | list e t _ =>
    intro us x bs d h
    obtain ⟨v, rfl, hs, h3⟩ := h
    refine ⟨[⟨d, .sl e t (cond t.isList .deep .own) x 0 none, v, bs⟩], rfl, (List.append_nil bs).symm, rfl, rfl, rfl, fun n hn => ?_, fun σ φ' hφ => ?_⟩
    · simp at hn
      subst hn
      exact ⟨fun _ _ => h3, hs⟩
    · obtain ⟨A, n, c, rfl⟩ := hs
      exact CsR.single ⟨hφ _ (List.mem_singleton.2 rfl), _, _, _, rfl⟩ rfl
  | rows e t _ =>
    intro us x bs d h
    obtain ⟨v, rfl, hs, h3⟩ := h
    refine ⟨[⟨d, .sl e t .own x 0 none, v, bs⟩], rfl, (List.append_nil bs).symm, rfl, rfl, rfl, fun n hn => ?_, fun σ φ' hφ => ?_⟩
    · simp at hn
      subst hn
      exact ⟨fun _ _ => h3, hs⟩
    · obtain ⟨A, n, c, rfl⟩ := hs
      exact CsR.single ⟨hφ _ (List.mem_singleton.2 rfl), _, _, _, rfl⟩ rfl
  | mptr t _ =>
    intro us x bs d h
    have h0 := h
    obtain ⟨g, cur, e, b, rfl, _⟩ := h
    refine ⟨[⟨d, .mbox t x, .pointer (some ⟨g, 0, none⟩), bs⟩], rfl, (List.append_nil bs).symm, rfl, rfl, rfl, fun n hn => ?_, fun σ φ' hφ => ?_⟩
    · simp at hn
      subst hn
      exact ⟨fun _ _ => h0, trivial⟩
    · exact CsR.single ⟨g, hφ _ (List.mem_singleton.2 rfl), rfl⟩ rfl
  | kclo f t ih =>
    intro us x bs d h
    obtain ⟨vs, rfl, h1⟩ := h
    obtain ⟨N, p1, p2, p3, p4, p5, p6, p7⟩ := ih d h1
    refine ⟨N, p1, p2, p3, p4, p5, p6, fun σ φ' hφ => ?_⟩
    exact CsR.single (cs_clo (p7 σ φ' hφ)) rfl
  | int k => intro us x bs d h; exact leaf d rfl h.1 h.2
  | bool => intro us x bs d h; exact leaf d rfl h.1 h.2
  | str => intro us x bs d h; exact leaf d rfl h.1 h.2
  | ptr t => intro us x bs d h; exact leaf d rfl h.1 h.2
  | fn1 a r => intro us x bs d h; exact leaf d rfl h.1 h.2
  | fn2 a b r => intro us x bs d h; exact leaf d rfl h.1 h.2
  | sptr f k => intro us x bs d h; exact leaf d rfl h.1 h.2
  | rol e t => intro us x bs d h; exact leaf (t := .list e t) d rfl h.1 h.2
end

def OwM (P : Program) : (t : Ty) → World → (Nat → Prop) → List Value → t.T → List Nat → Prop
  | .pair a b, w, B, us, x, bs => ∃ u v b1 b2, us = u ++ v ∧ bs = b1 ++ b2 ∧ OwM P a w B u x.1 b1 ∧ OwM P b w B v x.2 b2
  | .kclo f t, w, B, us, x, bs => ∃ vs : List Value, us = [.func (.func f) #[] vs.toArray] ∧ OwM P t w B vs x bs
  | .ptr t, w, B, us, x, bs => us.length = 1 ∧ (∀ u ∈ us, u.oneCell' = true) ∧ bs = []
  | .list e t, w, B, us, x, bs => OwT P (.list e t) w B us x bs
  | .rows e t, w, B, us, x, bs => OwT P (.rows e t) w B us x bs
  | .mptr t, w, B, us, x, bs => OwT P (.mptr t) w B us x bs
  | .int k, w, B, us, x, bs => OwT P (.int k) w B us x bs
  | .bool, w, B, us, x, bs => OwT P .bool w B us x bs
  | .str, w, B, us, x, bs => OwT P .str w B us x bs
  | .unit, w, B, us, x, bs => OwT P .unit w B us x bs
  | .fn1 a r, w, B, us, x, bs => OwT P (.fn1 a r) w B us x bs
  | .fn2 a b r, w, B, us, x, bs => OwT P (.fn2 a b r) w B us x bs
  | .sptr f k, w, B, us, x, bs => OwT P (.sptr f k) w B us x bs
  | .rol e t, w, B, us, x, bs => OwT P (.rol e t) w B us x bs

section
variable {P : Program} {B : Nat → Prop} {w : World}
theorem OwT.toM : ∀ {t : Ty} {us : List Value} {x : t.T} {bs : List Nat}, OwT P t w B us x bs → OwM P t w B us x bs := by
  intro t
  induction t with
  | pair a b iha ihb =>
    intro us x bs h
    obtain ⟨u, v, b1, b2, h1, h2, h3, h4⟩ := h
    exact ⟨u, v, b1, b2, h1, h2, iha h3, ihb h4⟩
  | kclo f t ih =>
    intro us x bs h
    obtain ⟨vs, h1, h2⟩ := h
    exact ⟨vs, h1, ih h2⟩
  | ptr t _ => intro us x bs h; exact ⟨h.1.len, h.1.one, h.2⟩
  | _ => intro us x bs h; exact h

theorem OwM.len : ∀ {t : Ty} {us : List Value} {x : t.T} {bs : List Nat}, OwM P t w B us x bs → us.length = t.n := by
  intro t
  induction t with
  | pair a b iha ihb =>
    intro us x bs h
    obtain ⟨u, v, b1, b2, rfl, rfl, h1, h2⟩ := h
    simp [Ty.n, iha h1, ihb h2]
  | kclo f t _ => intro us x bs h; obtain ⟨vs, rfl, _⟩ := h; rfl
  | ptr t _ => intro us x bs h; exact h.1
  | _ => intro us x bs h; exact OwT.len h

theorem OwM.one : ∀ {t : Ty} {us : List Value} {x : t.T} {bs : List Nat}, OwM P t w B us x bs → ∀ u ∈ us, u.oneCell' = true := by
  intro t
  induction t with
  | pair a b iha ihb =>
    intro us x bs h u hu
    obtain ⟨u, v, b1, b2, rfl, rfl, h1, h2⟩ := h
    rcases List.mem_append.1 hu with h | h
    · exact iha h1 _ h
    · exact ihb h2 _ h
  | kclo f t _ => intro us x bs h u hu; obtain ⟨vs, rfl, _⟩ := h; simp at hu; subst hu; rfl
  | ptr t _ => intro us x bs h; exact h.2.1
  | _ => intro us x bs h; exact OwT.one h

theorem OwM.free {B' : Nat → Prop} : ∀ {t : Ty} {us : List Value} {x : t.T} {bs : List Nat}, t.hands = true → OwM P t w B us x bs → OwM P t w B' us x bs := by
  intro t
  induction t with
  | pair a b iha ihb =>
    intro us x bs ho h
    simp only [Ty.hands, both_true] at ho
    obtain ⟨u, v, b1, b2, h1, h2, h3, h4⟩ := h
    exact ⟨u, v, b1, b2, h1, h2, iha ho.1 h3, ihb ho.2 h4⟩
  | kclo f t ih =>
    intro us x bs ho h
    obtain ⟨vs, h1, h2⟩ := h
    exact ⟨vs, h1, ih ho h2⟩
  | ptr t _ => intro us x bs ho h; exact h
  | mptr t _ =>
    intro us x bs ho h
    obtain ⟨g, cur, e, b, h1, h2, h3, h4⟩ := h
    exact ⟨g, cur, e, b, h1, h2, h3.free ho, h4⟩
  | list e t _ =>
    intro us x bs ho h
    refine OwT.free (t := .list e t) ?_ h
    cases t <;> exact ho
  | rows e t _ => intro us x bs ho; cases ho
  | fn1 a r _ _ => intro us x bs ho; cases ho
  | fn2 a b r _ _ _ => intro us x bs ho; cases ho
  | sptr f k => intro us x bs ho; cases ho
  | rol e t _ => intro us x bs ho; cases ho
  | _ => intro us x bs ho h; exact OwT.free rfl h
end

def ArgsR (P : Program) (w : World) (B : Nat → Prop) : (ps : List (Mode × Ty)) → List Value → argsT ps → List Nat → Prop
  | [], [], _, bs => bs = []
  | (m, t) :: ps, v :: vs, x, bs => ∃ us b1 b2, v = t.mk us ∧ bs = b1 ++ b2 ∧ (m = .ro ∧ Rd P t w B us x.1 ∧ b1 = [] ∨ m ≠ .ro ∧ t.para = true ∧ OwT P t w B us x.1 b1) ∧ ArgsR P w B ps vs x.2 b2
  | _, _, _, _ => False
def ResR (P : Program) (w : World) (B : Nat → Prop) : (rs : List (Bool × Ty)) → List Value → resT rs → List Nat → Prop
  | [], [], _, bs => bs = []
  | (o, t) :: rs, v :: vs, x, bs => ∃ us b1 b2, v = t.mk us ∧ bs = b1 ++ b2 ∧ (o = false ∧ Rd P t w B us x.1 ∧ b1 = [] ∨ o = true ∧ OwT P t w B us x.1 b1) ∧ ResR P w B rs vs x.2 b2
  | _, _, _, _ => False
def MutR (P : Program) (w : World) (B : Nat → Prop) : (ps : List (Mode × Ty)) → List Value → mutT ps → List Nat → Prop
  | [], _, _, bs => bs = []
  | (.mut, t) :: ps, vs, x, bs => ∃ v us b1 b2, vs.head? = some v ∧ v = t.mk us ∧ bs = b1 ++ b2 ∧ OwM P t w B us x.1 b1 ∧ MutR P w B ps vs.tail x.2 b2
  | (.ro, _) :: ps, vs, x, bs => MutR P w B ps vs.tail x bs
  | (.own, _) :: ps, vs, x, bs => MutR P w B ps vs.tail x bs

def retV : List Value → Value
  | [v] => v
  | vs => .tuple vs.toArray

def SelfOk (f : FuncId) (ps : List (Mode × Ty)) (vals : List Value) (w : World) : Prop :=
  ∀ (i : Nat) m f' k, ps[i]? = some (m, .sptr f' k) → f' = f ∧ ∃ g, vals[i]? = some (.pointer (some ⟨g, 0, none⟩)) ∧ w.cell? ⟨g, 0, none⟩ = some (.func (.func f) #[] (vals.drop k).toArray) ∧ ∀ u ∈ vals.drop k, u.oneCell' = true
theorem noSelf_ok {ps : List (Mode × Ty)} (h : noSelf ps = true) : ∀ p ∈ ps, ∀ f k, p.2 ≠ .sptr f k := by
  induction ps with
  | nil => simp
  | cons q ps ih =>
    intro p hp f k e
    obtain ⟨m, t⟩ := q
    have h' : noSelf ps = true ∧ ∀ f k, t ≠ .sptr f k := by
      cases t <;> simp [noSelf] at h <;> exact ⟨h, by simp⟩
    rcases List.mem_cons.1 hp with rfl | hp
    · exact h'.2 f k e
    · exact ih h'.1 p hp f k e
theorem SelfOk.of {f : FuncId} {ps : List (Mode × Ty)} {vals : List Value} {w : World} (h : noSelf ps = true) : SelfOk f ps vals w :=
  fun i m f' k hi => absurd rfl (noSelf_ok h _ (List.mem_of_getElem? hi) f' k)
def PC (P : Program) (f : FuncId) (F : FSum) : Prop := Ent P f ∧
  ∀ (w : World) (B : Nat → Prop) (vals : List Value) (x : argsT F.ps) (bs : List Nat) (y : resT F.rs × mutT F.ps), ArgsR P w B F.ps vals x bs → SelfOk f F.ps vals w → bs.Nodup → (∀ b ∈ bs, ¬ B b ∧ b < w.heap.size) → (∀ b, B b → b < w.heap.size) →
    F.f x = some y → Calls P f vals.toArray w fun e w' => ∃ us B' rbs mbs, e = .returned (retV us) ∧ ResR P w' B' F.rs us y.1 rbs ∧ MutR P w' B' F.ps vals y.2 mbs ∧ Fr w w' (fun b => b ∉ bs) ∧ (rbs ++ mbs).Nodup ∧
      (∀ b ∈ rbs ++ mbs, ¬ B' b ∧ b < w'.heap.size ∧ (w.heap.size ≤ b ∨ b ∈ bs)) ∧ (∀ b, B b → B' b) ∧ (∀ b, B' b → b < w'.heap.size ∧ (B b ∨ w.heap.size ≤ b ∨ b ∈ bs))

def GOk (P : Program) (G : GTab) : Prop := ∀ f F, G f = some F → PC P f F
end Go.PV
