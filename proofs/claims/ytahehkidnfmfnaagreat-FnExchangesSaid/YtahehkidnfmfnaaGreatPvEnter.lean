/- Calls: what is handed on, and what comes back. -/
import Derived.Test.YtahehkidnfmfnaaGreatPvThaw
set_option linter.all false
namespace Go.PV
open Go

section
variable {P : Program} {Γ : Tab} {G : GTab} {B : Nat → Prop} {new : Id → Prop} {s : St} {tmps : Array Value} {w : World} {φ : Hd} {β : Bl} {R : Type} {r : R} {σ σ0 : Sto}

theorem asSelf_rel {σ0 σ' : Sto} (O : Obs P σ0 σ' φ β w B) (hσ : ∀ id o, σ' id = some o → σ0 id = some o) {f : FuncId} {k : Nat} {c : C} {v : Value} {x : Unit} (hv : CR P σ0 φ w B c v) (h : asSelf σ' f k c = some x) :
    ∃ us, v = (Ty.sptr f k).mk us ∧ Rd P (.sptr f k) w (Bx σ' β B) us x := by
  unfold asSelf at h
  split at h
  · obtain ⟨h1, _⟩ := cond_some h
    have h1 := beq_eq h1
    subst h1
    obtain ⟨g, u, rfl, h2, h3, vs, rfl, _⟩ := hv
    exact ⟨[.pointer (some ⟨g, 0, none⟩)], rfl, g, _, rfl, .inl h2, h3⟩
  · rename_i id
    split at h
    · rename_i f' caps ho
      obtain ⟨h1, _⟩ := cond_some h
      have h1 := beq_eq h1
      subst h1
      obtain ⟨g, h2, rfl⟩ := hv
      obtain ⟨v', h3, g', cur, e, h4, h5, h6, h7⟩ := O id _ ho
      rw [h2] at h3
      injection h3 with h3
      subst h3
      injection h4 with h4
      injection h4 with h4
      injection h4 with h4
      subst h4
      obtain ⟨u, hu⟩ := List.length_eq_one_iff.1 (show cur.toList.length = 1 by rw [h7.1]; rfl)
      have hc := h7.2.2 0 _ u rfl (by rw [hu]; rfl)
      obtain ⟨vs, rfl, _⟩ := hc
      refine ⟨[.pointer (some ⟨g, 0, none⟩)], rfl, g, vs.toArray, rfl, .inr ⟨id, by rw [ho]; simp, by rw [h6]; simp⟩, ?_⟩
      rw [cell_of_heap h5, ← Array.getElem?_toList, hu]
      rfl
    · cases h
  · rename_i f' k' y
    obtain ⟨h1, _⟩ := cond_some h
    obtain ⟨h1, h2⟩ := both_true.1 h1
    have h1 := beq_eq h1
    have h2 := beq_eq h2
    subst h1 h2
    obtain ⟨us, rfl, hr⟩ := hv
    exact ⟨us, rfl, hr.mono fun b hb => .inl hb⟩
  · cases h

theorem argF_rel (hG : GOk P G) (Rl : Rel P B new s tmps w φ β) {σ σ' : Sto} (hσ : ∀ id o, σ id = some o → s.sto id = some o) (hσ' : ∀ id o, σ' id = some o → s.sto id = some o) {Bc : Nat → Prop}
    (hB : ∀ b, Bx σ' β B b → Bc b) (hlow : ∀ b, Bx σ' β B b → b < w.heap.size) {m : Mode} {t : Ty} {v : V} {val : Value} {x : t.T} (hv : VR P s.sto φ w B v val) (h : argF G σ σ' m t v = some x) :
    ∃ us b1, val = t.mk us ∧ (m = .ro ∧ Rd P t w Bc us x ∧ b1 = [] ∨ m ≠ .ro ∧ t.para = true ∧ OwT P t w Bc us x b1) ∧ b1 = (ownIds σ [(m, t)] [v]).flatMap β ∧ ∀ i ∈ ownIds σ [(m, t)] [v], σ i ≠ none := by
  have O := Rl.obs hσ'
  unfold argF at h
  split at h
  · have hro : ∃ us, val = t.mk us ∧ Rd P t w (Bx σ' β B) us x := by
      split at h
      · exact asFn1_rel hG O hσ' hlow hv h
      · exact asFn2_rel hG O hσ' hlow hv h
      · exact asPtr_rel O hσ' hv h
      · exact asSelf_rel O hσ' hv h
      · exact asT_rel O hσ' hv h
    obtain ⟨us, h1, h2⟩ := hro
    exact ⟨us, [], h1, .inl ⟨rfl, h2.mono hB, rfl⟩, rfl, by simp [ownIds]⟩
  · rename_i hm
    obtain ⟨cs, h1, h⟩ := ob_some h
    obtain ⟨hb, h⟩ := cond_some h
    obtain ⟨hb1, hb2⟩ := both_true.1 hb
    have hc := cells_rel hv h1
    obtain ⟨h2, h3⟩ := ownCs_rel Rl hσ hσ' hB hc h
    have hl : cs.length = t.n := by rw [← hc.1, h2.len]
    have hk := vr_mk hv h1 hb1 hl
    have hm' : m ≠ .ro := fun e => hm e
    have e : ownIds σ [(m, t)] [v] = refs σ t cs := by
      cases m <;> first | exact absurd rfl hm' | simp [ownIds, h1]
    rw [e]
    exact ⟨_, _, hk, .inr ⟨hm', hb2, h2⟩, rfl, h3⟩

theorem ownIds_cons (σ : Sto) (m : Mode) (t : Ty) (ps : List (Mode × Ty)) (v : V) (vs : List V) : ownIds σ ((m, t) :: ps) (v :: vs) = ownIds σ [(m, t)] [v] ++ ownIds σ ps vs := by
  cases m <;> simp [ownIds]

theorem argsF_rel (hG : GOk P G) (Rl : Rel P B new s tmps w φ β) {σ σ' : Sto} (hσ : ∀ id o, σ id = some o → s.sto id = some o) (hσ' : ∀ id o, σ' id = some o → s.sto id = some o) {Bc : Nat → Prop}
    (hB : ∀ b, Bx σ' β B b → Bc b) (hlow : ∀ b, Bx σ' β B b → b < w.heap.size) : ∀ {ps : List (Mode × Ty)} {vs : List V} {vals : List Value} {x : argsT ps}, VsR P s.sto φ w B vs vals → argsF G σ σ' ps vs = some x →
      ArgsR P w Bc ps vals x ((ownIds σ ps vs).flatMap β) ∧ ∀ i ∈ ownIds σ ps vs, σ i ≠ none := by
  intro ps
  induction ps with
  | nil =>
    intro vs vals x hv h
    cases vs with
    | nil =>
      cases vals with
      | nil => exact ⟨rfl, by simp [ownIds]⟩
      | cons _ _ => exact False.elim hv
    | cons v vs => simp [argsF] at h
  | cons p ps ih =>
    intro vs vals x hv h
    obtain ⟨m, t⟩ := p
    cases vs with
    | nil => simp [argsF] at h
    | cons v vs =>
      cases vals with
      | nil => exact False.elim hv
      | cons val vals =>
        simp only [argsF] at h
        obtain ⟨y, h1, h⟩ := ob_some h
        obtain ⟨z, h2, h⟩ := ob_some h
        injection h with h
        subst h
        obtain ⟨us, b1, h3, h4, h5, h6⟩ := argF_rel hG Rl hσ hσ' hB hlow hv.1 h1
        obtain ⟨h7, h8⟩ := ih hv.2 h2
        rw [ownIds_cons]
        refine ⟨⟨us, b1, _, h3, by rw [List.flatMap_append, h5], h4, h7⟩, fun i hi => ?_⟩
        rcases List.mem_append.1 hi with h | h
        · exact h6 i h
        · exact h8 i h

def Turned (s : St) (φ : Hd) (n : NObj) : Prop := φ n.id = some n.hdr ∧ TurnedO n.o (s.sto n.id)

theorem mutCs_rel {w' : World} {B' : Nat → Prop} {σ σ' : Sto} (hσ : ∀ id o, σ id = some o → s.sto id = some o) : ∀ {t : Ty} {cs : List C} {us : List Value} {x0 x : t.T} {bs : List Nat}, CsR P s.sto φ w B cs us → ownCs σ σ' false t cs = some x0 →
    OwM P t w' B' us x bs → ∃ M : List NObj, mutCs σ t cs x = M.map NObj.up ∧ bs = M.flatMap (·.bs) ∧ (M.map (·.id)).Sublist (refs σ t cs) ∧ ∀ n ∈ M, n.Ok P w' B' ∧ Turned s φ n := by
  have flat : ∀ {t : Ty} {cs : List C} {us : List Value} {x : t.T} {bs : List Nat}, mutCs σ t cs x = [] → bs = [] →
      ∃ M : List NObj, mutCs σ t cs x = M.map NObj.up ∧ bs = M.flatMap (·.bs) ∧ (M.map (·.id)).Sublist (refs σ t cs) ∧ ∀ n ∈ M, n.Ok P w' B' ∧ Turned s φ n := by
    intro t cs us x bs hm hb
    exact ⟨[], by rw [hm]; rfl, by rw [hb]; rfl, by simp, by simp⟩
  have one : ∀ {cs : List C} {us : List Value}, CsR P s.sto φ w B cs us → ∀ c v, cs = [c] → us = [v] → CR P s.sto φ w B c v := fun {cs us} hc c v e e' => by
    subst e e'
    exact hc.2.2 0 c v rfl rfl
  intro t
  induction t with
  | pair a b iha ihb =>
    intro cs us x0 x bs hc h0 h
    simp only [ownCs] at h0
    obtain ⟨y, h1, h2⟩ := ob_some h0
    obtain ⟨z, h3, h4⟩ := ob_some h2
    obtain ⟨u, v, b1, b2, rfl, rfl, q1, q2⟩ := h
    have hu := q1.len
    have e1 : (u ++ v).take a.n = u := by rw [← hu]; exact List.take_left
    have e2 : (u ++ v).drop a.n = v := by rw [← hu]; exact List.drop_left
    have hc1 := hc.take a.n
    have hc2 := hc.drop a.n
    rw [e1] at hc1
    rw [e2] at hc2
    obtain ⟨M1, p1, p2, p3, p4⟩ := iha hc1 h1 q1
    obtain ⟨M2, r1, r2, r3, r4⟩ := ihb hc2 h3 q2
    refine ⟨M1 ++ M2, by simp only [mutCs, p1, r1, List.map_append], by rw [List.flatMap_append, ← p2, ← r2], ?_, fun n hn => ?_⟩
    · show List.Sublist _ (refs σ a _ ++ refs σ b _)
      rw [List.map_append]
      exact p3.append r3
    · rcases List.mem_append.1 hn with h | h
      · exact p4 n h
      · exact r4 n h
  | list e t _ =>
    intro cs us x0 x bs hc h0 h
    obtain ⟨v, rfl, hs, h3⟩ := h
    match cs, h0, hc with
    | [], h0, hc => simp [ownCs] at h0
    | c :: d :: l, h0, hc => simp [ownCs] at h0
    | [c], h0, hc =>
      have h1 := one hc c v rfl rfl
      simp only [ownCs] at h0
      unfold ownC at h0
      split at h0
      · rename_i a y
        obtain ⟨hf, h0⟩ := cond_some h0
        obtain ⟨e1, _⟩ := castT_some h0
        subst e1
        cases hf
      · cases h1
        refine ⟨[], rfl, ?_, by simp, by simp⟩
        cases hl : t.isList with
        | false =>
          rw [hl] at h3
          rcases h3 with ⟨_, _, h⟩ | ⟨_, _, _, _, _, h, _⟩
          · simpa using h
          · cases h
        | true =>
          rw [hl] at h3
          cases t <;> simp only [Ty.isList] at hl <;> first | (cases hl; done) | skip
          rcases h3 with ⟨_, _, h⟩ | ⟨_, _, _, _, _, _, h, _⟩
          · simpa using h
          · cases h
      · rename_i id
        split at h0
        · rename_i e' a m xs hv ho
          replace h0 := cond_some h0
          obtain ⟨hm, h0⟩ := h0
          have hm := mob_eq hm
          subst hm
          obtain ⟨e1, _⟩ := castT_some h0
          injection e1 with e1 e2
          subst e1
          subst e2
          refine ⟨[⟨id, .sl e' a (cond a.isList .deep .own) x (hv + 1) none, v, bs⟩], ?_, (List.append_nil bs).symm, by simp [refs, refC], fun n hn => ?_⟩
          · simp only [mutCs, ho]
            rfl
          · have := List.mem_singleton.1 hn
            subst this
            exact ⟨⟨fun _ _ => h3, hs⟩, h1.1, fun e t m xs hv1 hole h => by cases h; exact ⟨_, _, _, _, _, hσ _ _ ho, Nat.lt_succ_self _, fun h => h⟩⟩
        · cases h0
      · split at h0
        · obtain ⟨hb, _⟩ := cond_some h0
          cases (both_true.1 hb).1
        · cases h0
      · cases h0
  | rows e t _ =>
    intro cs us x0 x bs hc h0 h
    obtain ⟨v, rfl, hs, h3⟩ := h
    match cs, h0, hc with
    | [], h0, hc => simp [ownCs] at h0
    | c :: d :: l, h0, hc => simp [ownCs] at h0
    | [c], h0, hc =>
      have h1 := one hc c v rfl rfl
      simp only [ownCs] at h0
      unfold ownRows at h0
      split at h0
      · cases h1
        refine ⟨[], rfl, ?_, by simp, by simp⟩
        rcases h3 with ⟨_, _, h⟩ | ⟨_, _, _, _, _, h, _⟩
        · simpa using h
        · cases h
      · rename_i id
        split at h0
        · rename_i e' a xs hv ho
          obtain ⟨e1, _⟩ := castT_some h0
          injection e1 with e1 e2
          subst e1
          subst e2
          refine ⟨[⟨id, .sl e' a .own x (hv + 1) none, v, bs⟩], ?_, (List.append_nil bs).symm, by simp [refs, refC], fun n hn => ?_⟩
          · simp only [mutCs, ho]
            rfl
          · have := List.mem_singleton.1 hn
            subst this
            exact ⟨⟨fun _ _ => h3, hs⟩, h1.1, fun e t m xs hv1 hole h => by cases h; exact ⟨_, _, _, _, _, hσ _ _ ho, Nat.lt_succ_self _, fun h => h⟩⟩
        · cases h0
      · split at h0 <;> cases h0
      · cases h0
  | mptr t _ =>
    intro cs us x0 x bs hc h0 h
    have h00 := h
    obtain ⟨g, cur, e, b, rfl, _⟩ := h
    match cs, h0, hc with
    | [], h0, hc => simp [ownCs] at h0
    | c :: d :: l, h0, hc => cases c <;> simp [ownCs] at h0
    | [c], h0, hc =>
      have h1 := one hc c _ rfl rfl
      by_cases hca : ∃ id off, c = .adr id off
      case neg =>
        have h' : ownC σ false (.mptr t) c = some x0 := by
          cases c <;> first | exact absurd ⟨_, _, rfl⟩ hca | simpa only [ownCs] using h0
        exact absurd (ownC_flat rfl rfl h1 h').1 (by simp [Ty.flat])
      obtain ⟨id, off, rfl⟩ := hca
      simp only [ownCs] at h0
      obtain ⟨hz, h0⟩ := cond_some h0
      have hz := beq_eq hz
      subst hz
      obtain ⟨g', h2, h3⟩ := h1
      injection h3 with h3
      injection h3 with h3
      injection h3 with h3
      subst h3
      refine ⟨[⟨id, .mbox t x, .pointer (some ⟨g, 0, none⟩), bs⟩], rfl, (List.append_nil bs).symm, ?_, fun n hn => ?_⟩
      · simp only [refs, List.map_cons, List.map_nil]
        exact List.Sublist.cons₂ _ (List.nil_sublist _)
      · have := List.mem_singleton.1 hn
        subst this
        exact ⟨⟨fun _ _ => h00, trivial⟩, h2, fun e t m xs hv1 hole h => by cases h⟩
  | kclo f t ih =>
    intro cs us x0 x bs hc h0 h
    obtain ⟨vs, rfl, h3⟩ := h
    match cs, h0, hc with
    | [], h0, hc => simp [ownCs] at h0
    | c :: d :: l, h0, hc => cases c <;> simp [ownCs] at h0
    | [c], h0, hc =>
      have h1 := one hc c _ rfl rfl
      by_cases hca : ∃ f' caps, c = .clo f' caps
      case neg =>
        have h' : ownC σ false (.kclo f t) c = some x0 := by
          cases c <;> first | exact absurd ⟨_, _, rfl⟩ hca | simpa only [ownCs] using h0
        exact absurd (ownC_flat rfl rfl h1 h').1 (by simp [Ty.flat])
      obtain ⟨f', caps, rfl⟩ := hca
      simp only [ownCs] at h0
      obtain ⟨hz, h0⟩ := cond_some h0
      obtain ⟨vs', e1, h2⟩ := clo_cs (σ := s.sto) h1
      injection e1 with _ _ e1
      have e1 : vs = vs' := by simpa using e1
      subst e1
      exact ih h2 h0 h3
  | ptr t _ => intro cs us x0 x bs hc h0 h; exact flat (us := us) rfl h.2.2
  | _ => intro cs us x0 x bs hc h0 h; exact flat (us := us) rfl h.2

theorem mutF_rel {w' : World} {B' : Nat → Prop} {σ σ' : Sto} (hσ : ∀ id o, σ id = some o → s.sto id = some o) : ∀ {ps : List (Mode × Ty)} {vs : List V} {vals : List Value} {x : argsT ps} {y : mutT ps} {bs : List Nat},
    VsR P s.sto φ w B vs vals → argsF G σ σ' ps vs = some x → MutR P w' B' ps vals y bs →
      ∃ M : List NObj, mutF σ ps vs y = M.map NObj.up ∧ bs = M.flatMap (·.bs) ∧ (M.map (·.id)).Sublist (ownIds σ ps vs) ∧ ∀ n ∈ M, n.Ok P w' B' ∧ Turned s φ n := by
  intro ps
  induction ps with
  | nil =>
    intro vs vals x y bs hv h hm
    cases hm
    exact ⟨[], rfl, rfl, by simp, by simp⟩
  | cons p ps ih =>
    intro vs vals x y bs hv h hm
    obtain ⟨m, t⟩ := p
    cases vs with
    | nil => simp [argsF] at h
    | cons v vs =>
      cases vals with
      | nil => exact False.elim hv
      | cons val vals =>
        simp only [argsF] at h
        obtain ⟨x0, h1, h⟩ := ob_some h
        obtain ⟨z, h2, h⟩ := ob_some h
        rw [ownIds_cons]
        cases m with
        | ro =>
          obtain ⟨M, q1, q2, q3, q4⟩ := ih hv.2 h2 hm
          exact ⟨M, q1, q2, by simpa [ownIds] using q3, q4⟩
        | own =>
          obtain ⟨M, q1, q2, q3, q4⟩ := ih hv.2 h2 hm
          exact ⟨M, q1, q2, q3.trans (List.sublist_append_right _ _), q4⟩
        | «mut» =>
          obtain ⟨v', us, b1, b2, h3, h4, h5, h6, h7⟩ := hm
          injection h3 with h3
          obtain ⟨M, q1, q2, q3, q4⟩ := ih hv.2 h2 h7
          unfold argF at h1
          split at h1
          · rename_i e; cases e
          · obtain ⟨cs, k1, h1⟩ := ob_some h1
            obtain ⟨hb, h1⟩ := cond_some h1
            have hc := cells_rel hv.1 k1
            have hus : val.cells.toList = us := by
              subst h3
              rw [h4]
              cases ha : t.agg with
              | true => rw [mk_agg ha]; simp [Value.cells]
              | false =>
                have hl := h6.len
                rw [n_one ha] at hl
                obtain ⟨u, rfl⟩ := List.length_eq_one_iff.1 hl
                rw [mk_one ha, one_cells (h6.one u (by simp))]
            rw [hus] at hc
            obtain ⟨M1, p1, p2, p3, p4⟩ := mutCs_rel hσ hc h1 h6
            refine ⟨M1 ++ M, ?_, by rw [h5, List.flatMap_append, p2, q2], ?_, fun n hn => ?_⟩
            · show mutCs σ t (v.cells.getD []) y.1 ++ mutF σ ps vs y.2 = _
              rw [k1, Option.getD_some, p1, q1, List.map_append]
            · rw [List.map_append]
              refine List.Sublist.append ?_ q3
              simpa [ownIds, k1] using p3
            · rcases List.mem_append.1 hn with h | h
              · exact p4 n h
              · exact q4 n h

theorem resF_rel {w' : World} {B' : Nat → Prop} : ∀ {rs : List (Bool × Ty)} {us : List Value} {y : resT rs} {bs : List Nat} (d : Nat), ResR P w' B' rs us y bs →
    ∃ N : List NObj, (resF rs y d).2 = N.map NObj.up ∧ bs = N.flatMap (·.bs) ∧ N.map (·.id) = List.range' d N.length ∧ (∀ n ∈ N, n.Ok P w' B') ∧ us.length = (resF rs y d).1.length ∧
      ∀ σ φ', (∀ n ∈ N, φ' n.id = some n.hdr) → ∀ (i : Nat) (p : Bool × List C) (u : Value), (resF rs y d).1[i]? = some p → us[i]? = some u → CompR P σ φ' w' B' p u := by
  intro rs
  induction rs with
  | nil =>
    intro us y bs d h
    cases us with
    | cons u us => exact False.elim h
    | nil => cases h; exact ⟨[], rfl, rfl, rfl, by simp, rfl, fun σ φ' _ i p u h => by simp [resF] at h⟩
  | cons q rs ih =>
    intro us y bs d h
    obtain ⟨o, t⟩ := q
    cases us with
    | nil => exact False.elim h
    | cons u us =>
      obtain ⟨us', b1, b2, rfl, rfl, h3, h4⟩ := h
      have comp : ∀ {cs : List C} {σ : Sto} {φ' : Hd}, CsR P σ φ' w' B' cs us' → us'.length = t.n → CompR P σ φ' w' B' (t.agg, cs) (t.mk us') := fun {cs σ φ'} hc hl => by
        refine ⟨us', hc, ?_⟩
        cases ha : t.agg with
        | true => exact .inl ⟨rfl, mk_agg ha _⟩
        | false =>
          rw [n_one ha] at hl
          obtain ⟨v, rfl⟩ := List.length_eq_one_iff.1 hl
          exact .inr ⟨rfl, by rw [mk_one ha]⟩
      cases o with
      | false =>
        rcases h3 with ⟨_, h3, rfl⟩ | ⟨h3, _⟩
        · obtain ⟨N, p1, p2, p3, p4, p5, p6⟩ := ih d h4
          refine ⟨N, p1, p2, p3, p4, by simp [resF, p5], fun σ φ' hφ i p v hp hv => ?_⟩
          cases i with
          | zero =>
            simp [resF] at hp hv
            subst hp
            subst hv
            exact comp (split_rel h3) h3.len
          | succ i => exact p6 σ φ' hφ i p v (by simpa [resF] using hp) (by simpa using hv)
        · cases h3
      | true =>
        rcases h3 with ⟨h3, _⟩ | ⟨_, h3⟩
        · cases h3
        · obtain ⟨N1, r1, r2, r3, r4, r5, r6, r7⟩ := mkOwn_rel d h3
          obtain ⟨N, p1, p2, p3, p4, p5, p6⟩ := ih (mkOwn t y.1 d).2.2 h4
          refine ⟨N1 ++ N, by simp only [resF, r1, p1, List.map_append], by rw [List.flatMap_append, ← r2, ← p2], ?_, fun n hn => ?_, by simp [resF, p5], fun σ φ' hφ i p v hp hv => ?_⟩
          · rw [List.map_append, r3, p3, r4, List.length_append, List.range'_append_1]
          · rcases List.mem_append.1 hn with h | h
            · exact r6 n h
            · exact p4 n h
          · cases i with
            | zero =>
              simp [resF] at hp hv
              subst hp
              subst hv
              exact comp (r7 σ φ' fun n hn => hφ n (List.mem_append_left _ hn)) h3.len
            | succ i => exact p6 σ φ' (fun n hn => hφ n (List.mem_append_right _ hn)) i p v (by simpa [resF] using hp) (by simpa using hv)

theorem resV_rel {l : List (Bool × List C)} {us : List Value} (hl : us.length = l.length) (h : ∀ (i : Nat) (p : Bool × List C) (u : Value), l[i]? = some p → us[i]? = some u → CompR P σ φ w B p u) :
    VR P σ φ w B (resV l) (retV us) := by
  match l, us with
  | [], [] => exact ⟨[], rfl, rfl, fun i p u h => by simp at h⟩
  | [p], [u] => exact comp_rel (h 0 p u rfl rfl)
  | p :: q :: l, u :: v :: us => exact ⟨u :: v :: us, rfl, hl, h⟩
  | [], _ :: _ => simp at hl
  | _ :: _, [] => simp at hl
  | [p], u :: v :: us => simp at hl
  | p :: q :: l, [u] => simp at hl

theorem nodupIds_ok : ∀ {l : List Id}, nodupIds l = true → l.Nodup := by
  intro l
  induction l with
  | nil => intro _; simp
  | cons i l ih =>
    intro h
    obtain ⟨h1, h2⟩ := both_true.1 h
    exact List.nodup_cons.2 ⟨hasId_not (no_true.1 h1), ih h2⟩

theorem lenC_length {α : Type} : ∀ l : List α, lenC l = l.length := by
  intro l
  induction l with
  | nil => rfl
  | cons a l ih => simp [lenC, ih]

theorem ResR.free {B' B'' : Nat → Prop} : ∀ {rs : List (Bool × Ty)} {us : List Value} {y : resT rs} {bs : List Nat}, lends rs = false → ResR P w B' rs us y bs → ResR P w B'' rs us y bs := by
  intro rs
  induction rs with
  | nil => intro us y bs _ h; cases us <;> exact h
  | cons q rs ih =>
    intro us y bs hl h
    obtain ⟨o, t⟩ := q
    cases us with
    | nil => exact False.elim h
    | cons u us =>
      obtain ⟨us', b1, b2, h1, h2, h3, h4⟩ := h
      simp only [lends] at hl
      have hl1 : cond o (no t.owns) (no t.flat) = false := by
        cases hq : cond o (no t.owns) (no t.flat) with
        | false => rfl
        | true => rw [hq] at hl; cases hl
      have hl2 : lends rs = false := by rw [hl1] at hl; exact hl
      have nf : ∀ {b : Bool}, no b = false → b = true := fun {b} h => by cases b <;> simp_all [no]
      refine ⟨us', b1, b2, h1, h2, ?_, ih hl2 h4⟩
      rcases h3 with ⟨rfl, h3, h5⟩ | ⟨rfl, h3⟩
      · exact .inl ⟨rfl, h3.flat (nf hl1), h5⟩
      · exact .inr ⟨rfl, h3.free (nf hl1)⟩

theorem MutR.free {B' B'' : Nat → Prop} : ∀ {ps : List (Mode × Ty)} {vs : List Value} {y : mutT ps} {bs : List Nat}, lendsP ps = false → MutR P w B' ps vs y bs → MutR P w B'' ps vs y bs := by
  intro ps
  induction ps with
  | nil => intro vs y bs _ h; exact h
  | cons q ps ih =>
    intro vs y bs hl h
    obtain ⟨m, t⟩ := q
    cases m with
    | ro => exact ih hl h
    | own => exact ih hl h
    | «mut» =>
      obtain ⟨v, us, b1, b2, h2, h3, h4, h5, h6⟩ := h
      simp only [lendsP] at hl
      cases ht : t.hands with
      | false => rw [ht] at hl; simp [no] at hl
      | true =>
        rw [ht] at hl
        exact ⟨v, us, b1, b2, h2, h3, h4, h5.free ht, ih hl h6⟩

theorem id_room (d n x : Nat) (h : n ≤ 32) (h1 : 32 * (d + 1) ≤ x) (h2 : x < 32 * (d + 1) + n) : x - 32 * (d + 1) < 32 ∧ x < 32 * (d + 1) + 32 := by omega

theorem eff_call1 (hG : GOk P G) {f : FuncId} {F : FSum} (hF : PC P f F) (Rl : Rel P B new s tmps w φ β) {dst : Option Nat} (hnew : ∀ d, dst = some d → ∀ j, j < 32 → new (32 * (d + 1) + j)) {σr : Sto} (hσ : ∀ id o, σr id = some o → s.sto id = some o)
    {vs : List V} {vals : List Value} {K : Kont R} (hv : VsR P s.sto φ w B vs vals) (hself : SelfOk f F.ps vals w) (h : callF1 G σr dst F vs K = some r) :
    Calls P f vals.toArray w fun e w' => ∃ v u val B' φ' β', e = .returned val ∧ K v u = some r ∧ VR P (s.sto.puts u) φ' w' B' v val ∧ (Nx s.sto φ w B (s.sto.puts u) φ' w' B' ∧ Gr s.sto w B β (s.sto.puts u) w' B' β') ∧
      Rel P B' (fun i => new i ∧ ∀ d, dst = some d → ¬ (32 * (d + 1) ≤ i ∧ i < 32 * (d + 1) + 32)) ⟨s.env, s.sto.puts u⟩ tmps w' φ' β' := by
  obtain ⟨ps, rs, g⟩ := F
  unfold callF1 at h
  dsimp only at h
  · obtain ⟨hb1, h⟩ := cond_some h
    obtain ⟨u, hu, h⟩ := ob_some h
    obtain ⟨a, ha, h⟩ := ob_some h
    obtain ⟨y, hy, h⟩ := Option.bind_eq_some_iff.1 h
    obtain ⟨hlen, h⟩ := cond_some h
    have hnd := nodupIds_ok hb1
    generalize hfz : (cond (lendsF ps rs) (nub (ownIds σr ps vs) (valIds vs)) []) = fz at hu ha
    have hfznd : fz.Nodup := by
      rw [← hfz]
      cases lendsF ps rs with
      | true => exact (nub_spec _ _).1
      | false => exact List.nodup_nil
    have hfzi : ∀ i ∈ fz, i ∉ ownIds σr ps vs := fun i hi => by
      rw [← hfz] at hi
      cases hl : lendsF ps rs with
      | true => rw [hl] at hi; exact (((nub_spec _ _).2 i).1 hi).2
      | false => rw [hl] at hi; exact absurd hi (by simp)
    obtain ⟨n1, R1⟩ := Rl.freeze hσ hfznd hu
    obtain ⟨hfr1, hfr2⟩ := frzU_spec hu hfznd
    generalize hσ'e : (cond (lendsF ps rs) (σr.only fz) (σr.puts ((ownIds σr ps vs).map fun i => (i, none)))) = σ' at ha
    have hσ' : ∀ i o, σ' i = some o → s.sto i = some o ∧ i ∉ ownIds σr ps vs := fun i o ho => by
      rw [← hσ'e] at ho
      cases hl : lendsF ps rs with
      | true =>
        rw [hl] at ho
        obtain ⟨h1, h2⟩ := only_some ho
        exact ⟨hσ _ _ h1, hfzi i h2⟩
      | false =>
        rw [hl] at ho
        simp only [cond_false] at ho
        rw [puts_none] at ho
        split at ho
        · cases ho
        · rename_i hi; exact ⟨hσ _ _ ho, hi⟩
    have hblk : ∀ {i b}, s.sto i ≠ none → b ∈ β i → ¬ B b ∧ b < w.heap.size := fun {i b} hs hb => by
      obtain ⟨o, ho⟩ := Option.ne_none_iff_exists'.1 hs
      obtain ⟨_, _, _, _, h4⟩ := Rl.obj i o ho
      exact h4 b hb
    -- what the callee may read
    obtain ⟨Bc, hBc1, hBc2, hBc3, hBc4, hBc5⟩ : ∃ Bc : Nat → Prop, (∀ b, Bx σ' β B b → Bc b) ∧ (∀ b, Bc b → b < w.heap.size) ∧ (∀ b, Bf fz β B b → Bc b) ∧
        (∀ i ∈ ownIds σr ps vs, s.sto i ≠ none → ∀ b ∈ β i, ¬ Bc b) ∧ (lendsF ps rs = true → ∀ b, Bc b → Bf fz β B b) := by
      cases hl : lendsF ps rs with
      | true =>
        refine ⟨Bf fz β B, fun b hb => ?_, R1.low, fun _ h => h, fun i hi hs b hb hB => ?_, fun _ _ h => h⟩
        · rw [← hσ'e, hl] at hb
          exact Bx_only hb
        · rcases hB with hB | ⟨k, hk, hbk⟩
          · exact (hblk hs hb).1 hB
          · obtain ⟨e, t, m, xs, hv', h1, _⟩ := hfr2 k hk
            exact Rl.sep i k (fun e => hfzi k hk (e ▸ hi)) hs (by rw [hσ _ _ h1]; simp) b hb hbk
      | false =>
        have hz : fz = [] := by rw [← hfz, hl]; rfl
        refine ⟨Bx σ' β B, fun _ h => h, fun b hb => ?_, fun b hb => ?_, fun i hi hs b hb hB => ?_, fun e => by cases e⟩
        · rcases hb with hb | ⟨k, hk, hb⟩
          · exact Rl.low b hb
          · obtain ⟨o, ho⟩ := Option.ne_none_iff_exists'.1 hk
            exact (hblk (by rw [(hσ' _ _ ho).1]; simp) hb).2
        · rcases hb with hb | ⟨k, hk, _⟩
          · exact .inl hb
          · rw [hz] at hk; exact absurd hk (by simp)
        · rcases hB with hB | ⟨k, hk, hbk⟩
          · exact (hblk hs hb).1 hB
          · obtain ⟨o, ho⟩ := Option.ne_none_iff_exists'.1 hk
            exact Rl.sep i k (fun e => (hσ' _ _ ho).2 (e ▸ hi)) hs (by rw [(hσ' _ _ ho).1]; simp) b hb hbk
    obtain ⟨hargs, hlive0⟩ := argsF_rel hG Rl hσ (fun i o ho => (hσ' i o ho).1) hBc1 (fun b hb => hBc2 b (hBc1 b hb)) hv ha
    have hlive : ∀ i ∈ ownIds σr ps vs, s.sto i ≠ none := fun i hi => by
      obtain ⟨o, ho⟩ := Option.ne_none_iff_exists'.1 (hlive0 i hi)
      rw [hσ _ _ ho]; simp
    have hbsnd : ((ownIds σr ps vs).flatMap β).Nodup := by
      have key : ∀ l : List Id, l.Nodup → (∀ i ∈ l, s.sto i ≠ none) → (l.flatMap β).Nodup := by
        intro l
        induction l with
        | nil => intro _ _; simp
        | cons d l ih =>
          intro hn hs
          simp only [List.flatMap_cons]
          rw [List.nodup_append]
          obtain ⟨o, ho⟩ := Option.ne_none_iff_exists'.1 (hs d (by simp))
          obtain ⟨_, _, _, h3, _⟩ := Rl.obj d o ho
          refine ⟨h3, ih (List.nodup_cons.1 hn).2 fun d hd => hs d (by simp [hd]), fun x hx y hy e => ?_⟩
          subst e
          obtain ⟨d', hd', hb⟩ := List.mem_flatMap.1 hy
          exact Rl.sep d d' (fun e => (List.nodup_cons.1 hn).1 (e ▸ hd')) (hs d (by simp)) (hs d' (by simp [hd'])) x hx hb
      exact key _ hnd hlive
    have hbsB : ∀ b ∈ (ownIds σr ps vs).flatMap β, ¬ Bc b ∧ b < w.heap.size := fun b hb => by
      obtain ⟨i, hi, hb⟩ := List.mem_flatMap.1 hb
      exact ⟨hBc4 i hi (hlive i hi) b hb, (hblk (hlive i hi) hb).2⟩
    refine (hF.2 w Bc vals a _ y hargs hself hbsnd hbsB hBc2 hy).mono ?_
    rintro e w' ⟨us, B', rbs, mbs, rfl, hres, hmut, hfr, hrm, hrmb, hBB', hB'low⟩
    -- what is read afterwards
    obtain ⟨B2, k1, k2, k3, k4, k5⟩ : ∃ B2 : Nat → Prop, (∀ b, B2 b → B' b) ∧ (∀ b, Bf fz β B b → B2 b) ∧ ResR P w' B2 rs us y.1 rbs ∧ MutR P w' B2 ps vals y.2 mbs ∧
        (∀ b, B2 b → Bf fz β B b ∨ w.heap.size ≤ b ∨ b ∈ (ownIds σr ps vs).flatMap β) := by
      cases hl : lendsF ps rs with
      | true => exact ⟨B', fun _ h => h, fun b hb => hBB' b (hBc3 b hb), hres, hmut, fun b hb => (hB'low b hb).2.imp (hBc5 hl b) _root_.id⟩
      | false =>
        have hl1 : lends rs = false ∧ lendsP ps = false := by
          unfold lendsF at hl
          cases hq : lends rs with
          | true => rw [hq] at hl; cases hl
          | false => rw [hq] at hl; exact ⟨rfl, hl⟩
        exact ⟨Bf fz β B, fun b hb => hBB' b (hBc3 b hb), fun _ h => h, hres.free hl1.1, hmut.free hl1.2, fun b hb => .inl hb⟩
    obtain ⟨M, m1, m2, m3, m4⟩ := mutF_rel hσ hv ha k4
    obtain ⟨N, p1, p2, p3, p4, p5, p6⟩ := resF_rel (32 * (dst.getD 0 + 1)) k3
    have hNlen : N.length ≤ dstRoom dst := by
      have := ble_le hlen
      rw [lenC_length, p1, List.length_map] at this
      exact this
    have hNid : ∀ n ∈ N, new n.id ∧ ∃ d, dst = some d ∧ 32 * (d + 1) ≤ n.id ∧ n.id < 32 * (d + 1) + 32 := fun n hn => by
      have hm : n.id ∈ N.map (·.id) := List.mem_map.2 ⟨n, hn, rfl⟩
      rw [p3, List.mem_range'_1] at hm
      cases hd : dst with
      | none =>
        rw [hd] at hNlen
        have : N = [] := List.eq_nil_of_length_eq_zero (by simpa [dstRoom] using hNlen)
        rw [this] at hn
        exact absurd hn (by simp)
      | some d =>
        rw [hd] at hNlen hm
        simp only [Option.getD_some] at hm
        simp only [dstRoom] at hNlen
        have hm1 := hm.1
        have hm2 := hm.2
        have := hnew d hd (n.id - 32 * (d + 1)) (id_room d _ _ hNlen hm1 hm2).1
        rw [Nat.add_sub_cancel' hm.1] at this
        exact ⟨this, d, rfl, hm.1, (id_room d _ _ hNlen hm1 hm2).2⟩
    have hMin : ∀ n ∈ M, n.id ∈ ownIds σr ps vs := fun n hn => m3.subset (List.mem_map.2 ⟨n, hn, rfl⟩)
    have hs1 : ∀ i, i ∉ fz → (s.sto.puts u) i = s.sto i := fun i hi => hfr1 _ i hi
    have hs1n : ∀ i, (s.sto.puts u) i ≠ none → s.sto i ≠ none := fun i hi => by
      by_cases hm : i ∈ fz
      · obtain ⟨e, t, m, xs, hv', h1, _⟩ := hfr2 i hm
        rw [hσ _ _ h1]; simp
      · rw [← hs1 i hm]; exact hi
    have hβ1 : ∀ i b, b ∈ (if i ∈ fz then [] else β i) → b ∈ β i := fun i b hb => by
      split at hb
      · exact absurd hb (by simp)
      · exact hb
    have hLnd : ((M ++ N).map (·.id)).Nodup := by
      rw [List.map_append, List.nodup_append]
      refine ⟨hnd.sublist m3, by rw [p3]; exact List.nodup_range', fun x hx y hy e => ?_⟩
      subst e
      obtain ⟨n, hn, rfl⟩ := List.mem_map.1 hx
      obtain ⟨n', hn', e⟩ := List.mem_map.1 hy
      have h1 := (hNid n' hn').1
      rw [e] at h1
      exact hlive _ (hMin n hn) (Rl.free h1)
    have hblocks : ∀ n ∈ M ++ N, ∀ b ∈ n.bs, b ∈ rbs ++ mbs := fun n hn b hb => by
      rcases List.mem_append.1 hn with h | h
      · exact List.mem_append_right _ (by rw [m2]; exact List.mem_flatMap.2 ⟨n, h, hb⟩)
      · exact List.mem_append_left _ (by rw [p2]; exact List.mem_flatMap.2 ⟨n, h, hb⟩)
    obtain ⟨n2, R2⟩ := Rel.adopt (gone := ownIds σr ps vs) (L := M ++ N) (w' := w') (K := fun b => b ∉ (ownIds σr ps vs).flatMap β) (B' := B2) R1 hLnd
      (fun n hn => by
        rcases List.mem_append.1 hn with h | h
        · obtain ⟨h1, h2⟩ := (m4 n h).2
          exact .inr ⟨hMin n h, h1, by show TurnedO _ ((s.sto.puts u) _); rw [hs1 _ fun hm => hfzi _ hm (hMin n h)]; exact h2⟩
        · exact .inl (hNid n h).1)
      (fun n hn σ φ' _ => by
        rcases List.mem_append.1 hn with h | h
        · exact (m4 n h).1.1 _ _
        · exact (p4 n h).1 _ _)
      (by
        rw [List.flatMap_append, ← m2, ← p2]
        rw [List.nodup_append] at hrm ⊢
        exact ⟨hrm.2.1, hrm.1, fun a ha b hb e => hrm.2.2 b hb a ha e.symm⟩)
      (fun n hn b hb => by
        obtain ⟨h1, h2, h3⟩ := hrmb b (hblocks n hn b hb)
        refine ⟨fun hB => h1 (k1 b hB), h2, fun k hk hs hbk => ?_, h3.imp _root_.id fun h3 => by obtain ⟨i, hi, hbi⟩ := List.mem_flatMap.1 h3; exact ⟨i, by show (s.sto.puts u) i ≠ none; rw [hs1 _ fun hm => hfzi _ hm hi]; exact hlive i hi, by rw [if_neg fun hm => hfzi _ hm hi]; exact hbi⟩⟩
        have hbk := hβ1 k b hbk
        rcases h3 with h3 | h3
        · exact absurd (hblk (hs1n k hs) hbk).2 (by omega)
        · obtain ⟨i, hi, hbi⟩ := List.mem_flatMap.1 h3
          exact Rl.sep i k (fun e => hk (e ▸ hi)) (hlive i hi) (hs1n k hs) b hbi hbk)
      hfr (fun b hb hm => by
        obtain ⟨i, hi, hbi⟩ := List.mem_flatMap.1 hm
        exact hb i (by show (s.sto.puts u) i ≠ none; rw [hs1 _ fun hm => hfzi _ hm hi]; exact hlive i hi) (by rw [if_neg fun hm => hfzi _ hm hi]; exact hbi))
      (fun b hb => (k5 b hb).imp _root_.id fun h => h.imp _root_.id fun h => by
        obtain ⟨i, hi, hbi⟩ := List.mem_flatMap.1 h
        exact ⟨i, by show (s.sto.puts u) i ≠ none; rw [hs1 _ fun hm => hfzi _ hm hi]; exact hlive i hi, by rw [if_neg fun hm => hfzi _ hm hi]; exact hbi⟩)
      (fun b hb hm => (hbsB b hm).1 (hBc3 b hb))
      (fun k hk hs b hb hm => by
        obtain ⟨i, hi, hbi⟩ := List.mem_flatMap.1 hm
        exact Rl.sep i k (fun e => hk (e ▸ hi)) (hlive i hi) (hs1n k hs) b hbi (hβ1 k b hb))
      k2 (fun b hb => (hB'low b (k1 b hb)).1)
      (fun k hk hs b hb hB => by
        have hbk := hβ1 k b hb
        rcases k5 b hB with h | h | h
        · obtain ⟨o, ho⟩ := Option.ne_none_iff_exists'.1 hs
          obtain ⟨_, _, _, _, h4⟩ := R1.obj k o ho
          exact (h4 b hb).1 h
        · exact absurd (hblk (hs1n k hs) hbk).2 (by omega)
        · obtain ⟨i, hi, hbi⟩ := List.mem_flatMap.1 h
          exact Rl.sep i k (fun e => hk (e ▸ hi)) (hlive i hi) (hs1n k hs) b hbi hbk)
    have he : u ++ ((ownIds σr ps vs).map fun i => (i, (none : Option PObj))) ++ mutF σr ps vs y.2 ++ (resF rs y.1 (32 * (dst.getD 0 + 1))).2 = u ++ (((ownIds σr ps vs).map fun i => (i, none)) ++ (M ++ N).map NObj.up) := by
      rw [m1, p1]
      simp [List.append_assoc]
    rw [he] at h
    refine ⟨_, _, _, B2, phiL φ (M ++ N), betaL (fun i => if i ∈ fz then [] else β i) (M ++ N), rfl, h, ?_, ?_, ?_⟩
    · exact resV_rel p5 (p6 _ _ fun n hn => phiL_mem hLnd (List.mem_append_right _ hn))
    · rw [puts_append]
      exact ⟨n1.1.trans n2.1, n1.2.trans n2.2⟩
    · rw [puts_append]
      refine ⟨R2.env, R2.obj, R2.sep, R2.low, fun i hi => R2.new i ⟨hi.1, fun hm => ?_⟩⟩
      obtain ⟨n, hn, rfl⟩ := List.mem_map.1 hm
      rcases List.mem_append.1 hn with h | h
      · exact hlive _ (hMin n h) (Rl.free hi.1)
      · obtain ⟨_, d, hd, h1, h2⟩ := hNid n h
        exact hi.2 d hd ⟨h1, h2⟩

theorem VsR.next {σ σ' : Sto} {φ' : Hd} {w' : World} {B' : Nat → Prop} (n : Nx σ φ w B σ' φ' w' B') : ∀ {vs : List V} {us : List Value}, VsR P σ φ w B vs us → VsR P σ' φ' w' B' vs us := by
  intro vs
  induction vs with
  | nil => intro us h; cases us <;> exact h
  | cons v vs ih => intro us h; cases us with
    | nil => exact h
    | cons u us => exact ⟨VR.next n h.1, ih h.2⟩

theorem eff_call0 (hG : GOk P G) (Rl : Rel P B new s tmps w φ β) {dst : Option Nat} (hnew : ∀ d, dst = some d → ∀ j, j < 32 → new (32 * (d + 1) + j)) {σr : Sto} (hσ : ∀ id o, σr id = some o → s.sto id = some o)
    {f : FuncId} {vs : List V} {vals : List Value} {K : Kont R} (hv : VsR P s.sto φ w B vs vals) (hself : ∀ F, G f = some F → SelfOk f F.ps vals w) (h : callF0 G σr dst f vs K = some r) :
    Calls P f vals.toArray w fun e w' => ∃ v u val B' φ' β', e = .returned val ∧ K v u = some r ∧ VR P (s.sto.puts u) φ' w' B' v val ∧ (Nx s.sto φ w B (s.sto.puts u) φ' w' B' ∧ Gr s.sto w B β (s.sto.puts u) w' B' β') ∧
      Rel P B' (fun i => new i ∧ ∀ d, dst = some d → ¬ (32 * (d + 1) ≤ i ∧ i < 32 * (d + 1) + 32)) ⟨s.env, s.sto.puts u⟩ tmps w' φ' β' := by
  unfold callF0 at h
  split at h
  · rename_i F hF
    obtain ⟨hn, h⟩ := cond_some h
    have hth : Thawed s.sto (rowsU σr F.ps vs) := fun p hp => by
      obtain ⟨e, a, b, xs, hv, h1, h2⟩ := rowsU_ok p hp
      exact ⟨e, a, b, xs, hv, hσ _ _ h1, h2⟩
    obtain ⟨B1, β1, n1, R1⟩ := Rl.thaws hth (nodupIds_ok hn)
    have hσ1 : ∀ id o, (σr.puts (rowsU σr F.ps vs)) id = some o → (s.sto.puts (rowsU σr F.ps vs)) id = some o := by
      have key : ∀ (u : Upd) (σ σ' : Sto), (∀ id o, σ id = some o → σ' id = some o) → ∀ id o, (σ.puts u) id = some o → (σ'.puts u) id = some o := by
        intro u
        induction u with
        | nil => intro σ σ' h; exact h
        | cons p u ih =>
          intro σ σ' h
          refine ih _ _ fun id o ho => ?_
          by_cases hp : id = p.1
          · subst hp
            rw [put_same] at ho ⊢
            exact ho
          · rw [put_other _ _ hp] at ho ⊢
            exact h id o ho
      exact key _ _ _ hσ
    refine (eff_call1 hG (hG _ _ hF) R1 hnew hσ1 (hv.next n1.1) (hself F hF) h).mono ?_
    rintro e w' ⟨v, u, val, B', φ', β', rfl, h1, h2, h3, h4⟩
    refine ⟨v, rowsU σr F.ps vs ++ u, val, B', φ', β', rfl, h1, ?_, ?_, ?_⟩
    · rw [puts_append]; exact h2
    · rw [puts_append]; exact ⟨n1.1.trans h3.1, n1.2.trans h3.2⟩
    · rw [puts_append]; exact h4
  · cases h

theorem nodup_set2 : ∀ {l : List (List Nat)}, l.flatten.Nodup → ∀ {i : Nat} {m bb : List Nat}, m.Nodup → l[i]? = some bb → (∀ x ∈ m, x ∈ bb ∨ x ∉ l.flatten) → (l.set i m).flatten.Nodup := by
  intro l
  induction l with
  | nil => intro _ i m bb _ h; simp at h
  | cons k l ih =>
    intro hn i m bb hm hb hx
    simp only [List.flatten_cons, List.nodup_append] at hn
    cases i with
    | zero =>
      simp at hb
      subst hb
      simp only [List.set_cons_zero, List.flatten_cons, List.nodup_append]
      refine ⟨hm, hn.2.1, fun x hxm y hy e => ?_⟩
      subst e
      rcases hx x hxm with h | h
      · exact hn.2.2 x h x hy rfl
      · exact h (by simp only [List.flatten_cons, List.mem_append]; exact .inr hy)
    | succ i =>
      have hb' : l[i]? = some bb := by simpa using hb
      simp only [List.set_cons_succ, List.flatten_cons, List.nodup_append]
      refine ⟨hn.1, ih hn.2.1 hm hb' fun x hxm => (hx x hxm).imp _root_.id fun h h' => h (by simp only [List.flatten_cons, List.mem_append]; exact .inr h'), fun x hxk y hy e => ?_⟩
      subst e
      rcases mem_set_flat hy with h | h
      · rcases hx x h with h1 | h1
        · exact hn.2.2 x hxk x (List.mem_flatten.2 ⟨bb, List.mem_of_getElem? hb', h1⟩) rfl
        · exact h1 (by simp only [List.flatten_cons, List.mem_append]; exact .inl hxk)
      · exact hn.2.2 x hxk x h rfl

theorem list_para {a : TypeId} {b : Ty} (h : (Ty.list a b).owns = true) : (Ty.list a b).para = true := by cases b <;> exact h
theorem flat_owns : ∀ {t : Ty}, t.flat = true → t.owns = true := by
  intro t
  induction t with
  | pair a b iha ihb => intro h; obtain ⟨h1, h2⟩ := both_true.1 h; exact both_true.2 ⟨iha h1, ihb h2⟩
  | list e t _ => intro h; cases h
  | ptr t _ => intro h; cases h
  | fn1 a r _ _ => intro h; cases h
  | fn2 a b r _ _ _ => intro h; cases h
  | _ => intro h; exact h
theorem flat_list {a : TypeId} {b : Ty} (h : b.flat = true) : (Ty.list a b).owns = true ∧ b.isList = false := by
  cases b <;> first | (cases h; done) | exact ⟨h, rfl⟩
theorem flatR_ok : ∀ {rs : List (Bool × Ty)}, flatR rs = true → lends rs = false ∧ ∀ (y : resT rs) (d : Nat), (resF rs y d).2 = [] := by
  intro rs
  induction rs with
  | nil => intro _; exact ⟨rfl, fun _ _ => rfl⟩
  | cons q rs ih =>
    intro h
    obtain ⟨o, t⟩ := q
    obtain ⟨h1, h2⟩ := both_true.1 h
    obtain ⟨h3, h5⟩ := ih h2
    have hm : ∀ {t : Ty}, t.flat = true → ∀ (x : t.T) (d : Nat), (mkOwn t x d).2.1 = [] := by
      intro t
      induction t with
      | pair a b iha ihb => intro h x d; obtain ⟨k1, k2⟩ := both_true.1 h; simp [mkOwn, iha k1, ihb k2]
      | list e t _ => intro h; cases h
      | rows e t _ => intro h; cases h
      | mptr t _ => intro h; cases h
      | kclo f t _ => intro h; cases h
      | _ => intro h x d; rfl
    have h1 : t.flat = true := h1
    refine ⟨?_, fun y d => ?_⟩
    · simp only [lends, h1, h3, flat_owns h1]
      cases o <;> rfl
    · cases o with
      | true => simp [resF, hm h1, h5]
      | false => simp [resF, h5]

theorem rowArgs_ro {a : TypeId} {b : Ty} {row : List b.T} : ∀ {ps : List (Mode × Ty)} {vs : List V} {vals : List Value} {x : argsT ps}, VsR P s.sto φ w B vs vals → rowArgs a b row ps vs true = some x →
    ArgsR P w B ps vals x [] := by
  intro ps
  induction ps with
  | nil =>
    intro vs vals x hv h
    cases vs with
    | cons _ _ => simp [rowArgs] at h
    | nil => cases vals with
      | nil => rfl
      | cons _ _ => exact False.elim hv
  | cons q ps ih =>
    intro vs vals x hv h
    obtain ⟨m, t⟩ := q
    cases m with
    | ro =>
      cases vs with
      | nil => simp [rowArgs] at h
      | cons v vs =>
        cases v with
        | one c =>
          cases c with
          | ro c y =>
            cases vals with
            | nil => exact False.elim hv
            | cons val vals =>
              obtain ⟨z, h1, h⟩ := ob_some (show ob (castT (a := c) t y) _ = some x from h)
              obtain ⟨u, h2, h⟩ := ob_some h
              injection h with h
              subst h
              obtain ⟨e, rfl⟩ := castT_some h1
              subst e
              obtain ⟨us, rfl, hr⟩ := hv.1
              exact ⟨us, [], [], rfl, rfl, .inl ⟨rfl, hr, rfl⟩, ih hv.2 h2⟩
          | _ => simp [rowArgs] at h
        | _ => simp [rowArgs] at h
    | own => simp [rowArgs] at h
    | «mut» =>
      cases vs with
      | nil => simp [rowArgs] at h
      | cons v vs =>
        cases v with
        | one c => cases c <;> simp [rowArgs] at h
        | _ => simp [rowArgs] at h

theorem rowMut_none {a : TypeId} {b : Ty} {row : List b.T} : ∀ {ps : List (Mode × Ty)} {vs : List V} {vals : List Value} {x : argsT ps} {y : mutT ps} {bs : List Nat} {w' : World} {B' : Nat → Prop}, rowArgs a b row ps vs true = some x → MutR P w' B' ps vals y bs → bs = [] := by
  intro ps
  induction ps with
  | nil => intro vs vals x y bs w' B' _ h; exact h
  | cons q ps ih =>
    intro vs vals x y bs w' B' h hm
    obtain ⟨m, t⟩ := q
    cases m with
    | ro =>
      cases vs with
      | nil => simp [rowArgs] at h
      | cons v vs =>
        cases v with
        | one c =>
          cases c with
          | ro c z =>
            obtain ⟨_, _, h⟩ := ob_some (show ob (castT (a := c) t z) _ = some x from h)
            obtain ⟨u, h2, _⟩ := ob_some h
            exact ih h2 hm
          | _ => simp [rowArgs] at h
        | _ => simp [rowArgs] at h
    | own => simp [rowArgs] at h
    | «mut» =>
      cases vs with
      | nil => simp [rowArgs] at h
      | cons v vs =>
        cases v with
        | one c => cases c <;> simp [rowArgs] at h
        | _ => simp [rowArgs] at h

theorem rowArgs_rel {a : TypeId} {b : Ty} {row : List b.T} {bs : List Nat} (hbf : b.flat = true) : ∀ {ps : List (Mode × Ty)} {vs : List V} {vals : List Value} {x : argsT ps}, VsR P s.sto φ w B vs vals → rowArgs a b row ps vs false = some x →
    (∀ id i hv val, elAt ps vs = some (id, i, hv) → CR P s.sto φ w B (.el id i hv) val → OwL P b w B val row bs ∧ ∃ A n c, val = .slice A n c) →
    ArgsR P w B ps vals x bs ∧ ∃ id i hv val, elAt ps vs = some (id, i, hv) ∧ CR P s.sto φ w B (.el id i hv) val ∧
      ∀ (w' : World) (B' : Nat → Prop) (y : mutT ps) (mbs : List Nat) (row' : List b.T), MutR P w' B' ps vals y mbs → rowMut a b ps y = some row' → OwL P b w' B' val row' mbs := by
  intro ps
  induction ps with
  | nil =>
    intro vs vals x hv h
    cases vs with
    | cons _ _ => simp [rowArgs] at h
    | nil => simp [rowArgs] at h
  | cons q ps ih =>
    intro vs vals x hv h hel
    obtain ⟨m, t⟩ := q
    cases m with
    | ro =>
      cases vs with
      | nil => simp [rowArgs] at h
      | cons v vs =>
        cases v with
        | one c =>
          cases c with
          | ro c y =>
            cases vals with
            | nil => exact False.elim hv
            | cons val vals =>
              obtain ⟨z, h1, h⟩ := ob_some (show ob (castT (a := c) t y) _ = some x from h)
              obtain ⟨u, h2, h⟩ := ob_some h
              injection h with h
              subst h
              obtain ⟨e, rfl⟩ := castT_some h1
              subst e
              obtain ⟨us, rfl, hr⟩ := hv.1
              obtain ⟨h3, id, i, hv', val', h4, h5, h6⟩ := ih hv.2 h2 fun id i hv' val he => hel id i hv' val he
              exact ⟨⟨us, [], bs, rfl, rfl, .inl ⟨rfl, hr, rfl⟩, h3⟩, id, i, hv', val', h4, h5, fun w' B' y mbs row' hm hr => h6 w' B' y mbs row' hm hr⟩
          | _ => simp [rowArgs] at h
        | _ => simp [rowArgs] at h
    | own => simp [rowArgs] at h
    | «mut» =>
      cases vs with
      | nil => simp [rowArgs] at h
      | cons v vs =>
        cases v with
        | one c =>
          cases c with
          | el id i hv' =>
            cases vals with
            | nil => exact False.elim hv
            | cons val vals =>
              obtain ⟨z, h1, h⟩ := ob_some (show ob (castT (a := .list a b) t row) _ = some x from h)
              obtain ⟨u, h2, h⟩ := ob_some h
              injection h with h
              subst h
              obtain ⟨e, rfl⟩ := castT_some h1
              subst e
              obtain ⟨h3, A, n, c, rfl⟩ := hel id i hv' val rfl hv.1
              obtain ⟨ho, hl⟩ := flat_list (a := a) hbf
              refine ⟨⟨[.slice A n c], bs, [], rfl, by simp, .inr ⟨by simp, list_para ho, _, rfl, ⟨A, n, c, rfl⟩, ?_⟩, rowArgs_ro hv.2 h2⟩, id, i, hv', _, rfl, hv.1, fun w' B' y mbs row' hm hr => ?_⟩
              · rw [hl]; exact h3
              · obtain ⟨v', us, b1, b2, q1, q2, q3, q4, q5⟩ := hm
                have hb2 : b2 = [] := rowMut_none h2 q5
                subst hb2
                simp only [List.append_nil] at q3
                subst q3
                injection q1 with q1
                obtain ⟨e2, he2⟩ := castT_some (show castT (a := .list a b) (.list a b) y.1 = some row' from hr)
                have he2 : y.1 = row' := he2
                obtain ⟨v2, rfl, _, q6⟩ := q4
                rw [hl] at q6
                have hmk : v' = v2 := by rw [q2]; exact mk_one rfl v2
                rw [q1, hmk, ← he2]
                exact q6
          | _ => simp [rowArgs] at h
        | _ => simp [rowArgs] at h

theorem eff_row {f : FuncId} {F : FSum} (hF : PC P f F) (Rl : Rel P B new s tmps w φ β) {new' : Id → Prop} (hn' : ∀ i, new' i → new i) {σr : Sto} (hσ : ∀ id o, σr id = some o → s.sto id = some o)
    {vs : List V} {vals : List Value} {K : Kont R} (hv : VsR P s.sto φ w B vs vals) (hself : SelfOk f F.ps vals w) (h : rowF σr F vs K = some r) :
    Calls P f vals.toArray w fun e w' => ∃ v u val B' φ' β', e = .returned val ∧ K v u = some r ∧ VR P (s.sto.puts u) φ' w' B' v val ∧ (Nx s.sto φ w B (s.sto.puts u) φ' w' B' ∧ Gr s.sto w B β (s.sto.puts u) w' B' β') ∧
      Rel P B' new' ⟨s.env, s.sto.puts u⟩ tmps w' φ' β' := by
  unfold rowF at h
  split at h
  · rename_i id i hv0 hat
    split at h
    · rename_i e a b xs hv1 ho
      obtain ⟨hb, hK⟩ := cond_some h
      obtain ⟨hb1, hb2⟩ := both_true.1 hb
      obtain ⟨hbf, hrf⟩ := both_true.1 hb2
      have hb1 := beq_eq hb1
      clear h hb
      subst hb1
      obtain ⟨x, hx, hK⟩ := ob_some hK
      obtain ⟨p, hp, hK⟩ := Option.bind_eq_some_iff.1 hK
      obtain ⟨row', hrow', hK⟩ := ob_some hK
      have hso := hσ _ _ ho
      obtain ⟨hv', k1, k2, k3, k4⟩ := Rl.obj id _ hso
      have k2 : OwD P b w B hv' xs none (β id) := k2
      obtain ⟨fl1, fl3⟩ := flatR_ok hrf
      -- the row's own blocks
      have hel0 : ∀ val, CR P s.sto φ w B (.el id i hv0) val → ∃ (g o c : Nat) (cur : Array Value) (e' : TypeId) (bss : List (List Nat)) (bb : List Nat), hv' = .slice (some ⟨g, o, none⟩) xs.length c ∧ w.heap[g]? = some (.cells cur e' (0, 0)) ∧ xs.length ≤ c ∧ o + c ≤ cur.size ∧ β id = g :: bss.flatten ∧ bss.length = xs.length ∧
          (∀ k (h : k < xs.length), ∃ u, cur[o + k]? = some u ∧ u.oneCell' = true ∧ ∃ b1, bss[k]? = some b1 ∧ OwL P b w B u xs[k] b1) ∧ 0 ≤ i ∧ i.toNat < xs.length ∧ cur[o + i.toNat]? = some val ∧ bss[i.toNat]? = some bb ∧ OwL P b w B val (rd (.list a b) xs i) bb := fun val hc => by
        obtain ⟨_, _, _, hc⟩ := hc
        obtain ⟨g, o, n, c, h5, h6, h7, h8⟩ := hc _ _ _ _ _ hso
        rw [k1] at h5
        injection h5 with h5
        rcases k2 with ⟨h9, _⟩ | ⟨g', o', c', cur, e', bss, h9, h10, h11, h12, h13, h14, h15⟩
        · rw [h5] at h9; cases h9
        · rw [h9] at h5
          injection h5 with q1 q2 q3
          injection q1 with q1
          injection q1 with q1 q4
          subst q1
          subst q4
          have hi : i.toNat < xs.length := by omega
          have h15' : ∀ k (h : k < xs.length), ∃ u, cur[o' + k]? = some u ∧ u.oneCell' = true ∧ ∃ b1, bss[k]? = some b1 ∧ OwL P b w B u xs[k] b1 := fun k hk => by
            obtain ⟨u, r1, r2, r3⟩ := h15 k hk
            rcases r3 with ⟨r3, _⟩ | r3
            · cases r3
            · exact ⟨u, r1, r2, r3⟩
          obtain ⟨u, r1, r2, b1, r3, r4⟩ := h15' i.toNat hi
          rw [cell_of_heap h10, r1] at h8
          injection h8 with h8
          subst h8
          refine ⟨g', o', c', cur, e', bss, b1, h9, h10, h11, h12, h13, h14, h15', h6, hi, r1, r3, ?_⟩
          have : rd (.list a b) xs i = xs[i.toNat] := by simp [rd, hi]
          rw [this]
          exact r4
      obtain ⟨val0, hval0⟩ : ∃ val, CR P s.sto φ w B (.el id i hv0) val := by
        have key : ∀ {ps : List (Mode × Ty)} {vs : List V} {vals : List Value}, VsR P s.sto φ w B vs vals → elAt ps vs = some (id, i, hv0) → ∃ val, CR P s.sto φ w B (.el id i hv0) val := by
          intro ps
          induction ps with
          | nil => intro vs vals _ h; cases vs <;> simp [elAt] at h
          | cons q ps ih =>
            intro vs vals hv h
            obtain ⟨m, t⟩ := q
            cases vs with
            | nil => simp [elAt] at h
            | cons v vs =>
              cases vals with
              | nil => exact False.elim hv
              | cons val vals =>
                unfold elAt at h
                split at h
                · rename_i heq1 heq2
                  cases heq1
                  cases heq2
                  injection h with h
                  injection h with h1 h2
                  injection h2 with h2 h3
                  subst h1 h2 h3
                  exact ⟨val, hv.1⟩
                · rename_i heq1 heq2
                  cases heq1
                  cases heq2
                  exact ih hv.2 h
                · cases h
        exact key hv hat
      obtain ⟨g, o, c, cur, e', bss, bb, h9, h10, h11, h12, h13, h14, h15, h16, h17, h18, h19, h20⟩ := hel0 val0 hval0
      have huniq : ∀ val, CR P s.sto φ w B (.el id i hv0) val → val = val0 := fun val hc => by
        obtain ⟨g2, o2, c2, cur2, e2, bss2, bb2, q9, q10, _, _, _, _, _, _, _, q18, _⟩ := hel0 val hc
        rw [h9] at q9
        injection q9 with q9
        injection q9 with q9
        injection q9 with q9 q9'
        subst q9 q9'
        rw [h10] at q10
        injection q10 with q10
        injection q10 with q10
        subst q10
        rw [h18] at q18
        injection q18 with q18
        exact q18.symm
      have hshape : ∀ {v : Value} {ys : List b.T} {bs : List Nat}, OwL P b w B v ys bs → ∃ A n c, v = .slice A n c := fun h => by
        rcases h with ⟨h, _⟩ | ⟨_, _, _, _, _, h, _⟩
        · exact ⟨_, _, _, h⟩
        · exact ⟨_, _, _, h⟩
      obtain ⟨hargs, id', i', hv'', val, q1, q2, q3⟩ := rowArgs_rel (bs := bb) hbf hv hx fun id2 i2 hv2 val he hc => by
        rw [hat] at he
        injection he with he
        injection he with he1 he2
        injection he2 with he2 he3
        subst he1 he2 he3
        rw [huniq val hc]
        exact ⟨h20, hshape h20⟩
      rw [hat] at q1
      injection q1 with q1
      injection q1 with qa qb
      injection qb with qb qc
      subst qa qb qc
      rw [huniq val q2] at q3
      have hbbm : ∀ x ∈ bb, x ∈ bss.flatten := fun x hx => List.mem_flatten.2 ⟨bb, List.mem_of_getElem? h19, hx⟩
      have hbbβ : ∀ x ∈ bb, x ∈ β id := fun x hx => by rw [h13]; exact List.mem_cons_of_mem _ (hbbm x hx)
      have hnd := k3
      rw [h13] at hnd
      have hnd := List.nodup_cons.1 hnd
      have hbbnd : bb.Nodup := (List.pairwise_flatten.1 (show bss.flatten.Pairwise (· ≠ ·) from hnd.2)).1 bb (List.mem_of_getElem? h19)
      refine (hF.2 w B vals x bb p hargs hself hbbnd (fun b hb => k4 b (hbbβ b hb)) Rl.low hp).mono ?_
      rintro en w' ⟨us, B', rbs, mbs, rfl, hres, hmut, hfr, hrm, hrmb, hBB', hB'low⟩
      have hrow := q3 w' B' p.2 mbs row' hmut hrow'
      have hres' : ResR P w' B F.rs us p.1 rbs := hres.free fl1
      obtain ⟨N, p1, p2, p3, p4, p5, p6⟩ := resF_rel 0 hres'
      have hN : N = [] := by
        have := fl3 p.1 0
        rw [p1] at this
        simpa using this
      subst hN
      simp only [List.flatMap_nil] at p2
      subst p2
      simp only [List.nil_append] at hrm hrmb
      have hBm : ∀ b ∈ mbs, ¬ B b := fun b hb hB => (hrmb b hb).1 (hBB' b hB)
      have hgbb : g ∉ bb := fun h => hnd.1 (hbbm g h)
      have hrowB : OwL P b w' B val0 row' mbs := OwL.mono hrow (.inl hbf)
      have hin : ∀ x ∈ mbs, x ∈ bb ∨ x ∉ bss.flatten := fun x hx => by
        rcases (hrmb x hx).2.2 with h | h
        · refine .inr fun hm => ?_
          have := (k4 x (by rw [h13]; exact List.mem_cons_of_mem _ hm)).2
          omega
        · exact .inl h
      have hKB : ∀ b, B b → b ∉ bb := fun b hb hm => (k4 b (hbbβ b hm)).1 hb
      obtain ⟨n', R'⟩ := Rel.turn (gone := []) (σ' := s.sto.puts [(id, some (.sl e (.list a b) .deep (tSet xs i row') hv0 none))]) (bs := g :: (bss.set i.toNat mbs).flatten) (w' := w') (K := fun b => b ∉ bb) Rl hso (by simp) (put_same _ _ _) (by simp)
        (fun j hj _ => put_other _ _ hj) hfr (fun b hb hm => hb id (by rw [hso]; simp) (hbbβ b hm)) hKB (fun j hj _ hs b hb' hm => Rl.sep id j (Ne.symm hj) (by rw [hso]; simp) hs b (hbbβ b hm) hb')
        (List.nodup_cons.2 ⟨fun hm => by
          rcases mem_set_flat hm with h | h
          · rcases hin g h with h' | h'
            · exact hgbb h'
            · rcases (hrmb g h).2.2 with h2 | h2
              · have := (k4 g (by rw [h13]; simp)).2
                omega
              · exact hgbb h2
          · exact hnd.1 h, nodup_set2 hnd.2 hrm h19 hin⟩)
        (fun b hb => by
          have old : ∀ b ∈ β id, b < w'.heap.size ∧ (w.heap.size ≤ b ∨ ∃ c, (c = id ∨ c ∈ ([] : List Id)) ∧ s.sto c ≠ none ∧ b ∈ β c) := fun b hb =>
            ⟨Nat.lt_of_lt_of_le (k4 b hb).2 hfr.size, .inr ⟨id, .inl rfl, by rw [hso]; simp, hb⟩⟩
          rcases List.mem_cons.1 hb with rfl | hb
          · exact old _ (by rw [h13]; simp)
          · rcases mem_set_flat hb with h | h
            · refine ⟨(hrmb b h).2.1, (hrmb b h).2.2.imp _root_.id fun h => ⟨id, .inl rfl, by rw [hso]; simp, hbbβ b h⟩⟩
            · exact old _ (by rw [h13]; exact List.mem_cons_of_mem _ h))
        (fun n' v hv2 => by
          rw [k1] at hv2
          injection hv2 with hv2
          subst hv2
          refine .inr ⟨g, o, c, cur, e', bss.set i.toNat mbs, by rw [h9]; simp [tSet], ?_, by simpa [tSet] using h11, h12, rfl, by simp [tSet, h14], fun k hk => ?_⟩
          · rw [hfr.block g (k4 g (by rw [h13]; simp)).2 hgbb]
            exact h10
          · have hk' : k < xs.length := by simpa [tSet] using hk
            by_cases hki : k = i.toNat
            · subst hki
              obtain ⟨u, r1, r2, _⟩ := h15 i.toNat hk'
              rw [h18] at r1
              injection r1 with r1
              refine ⟨val0, h18, by rw [r1]; exact r2, .inr ⟨mbs, by simp [h14, hk'], ?_⟩⟩
              have : (tSet xs i row')[i.toNat] = row' := by simp [tSet]
              rw [this]
              exact hrowB
            · obtain ⟨u, r1, r2, b1, r3, r4⟩ := h15 k hk'
              have e1 : (tSet xs i row')[k] = xs[k] := List.getElem_set_ne (Ne.symm hki) _
              have e2 : (bss.set i.toNat mbs)[k]? = bss[k]? := List.getElem?_set_ne (Ne.symm hki)
              refine ⟨u, r1, r2, .inr ⟨b1, by rw [e2]; exact r3, ?_⟩⟩
              rw [e1]
              refine OwL.next r4 n'.fr n'.keep fun x hx => hfr.block x ?_ fun hm => ?_
              · exact (k4 x (by rw [h13]; exact List.mem_cons_of_mem _ (List.mem_flatten.2 ⟨b1, List.mem_of_getElem? r3, hx⟩))).2
              · have hpw := List.pairwise_flatten.1 (show bss.flatten.Pairwise (· ≠ ·) from hnd.2)
                have hlt1 : k < bss.length := by omega
                have hlt2 : i.toNat < bss.length := by omega
                have q1 := List.getElem?_eq_getElem hlt1
                have q2 := List.getElem?_eq_getElem hlt2
                rw [r3] at q1
                rw [h19] at q2
                injection q1 with q1
                injection q2 with q2
                rcases Nat.lt_or_gt_of_ne hki with hl | hl
                · exact List.pairwise_iff_getElem.1 hpw.2 k i.toNat hlt1 hlt2 hl x (q1 ▸ hx) x (q2 ▸ hm) rfl
                · exact List.pairwise_iff_getElem.1 hpw.2 i.toNat k hlt2 hlt1 hl x (q2 ▸ hm) x (q1 ▸ hx) rfl)
        (fun e1 t1 m1 xs1 hv1 hole1 h => by cases h; exact ⟨_, _, _, _, _, rfl, Nat.le_refl _, fun h => h⟩)
        (fun e1 a1 b1 xs1 hv1 hole1 e2 xs2 hole2 g' of n3 c3 h h' hφ' k v hk hcell => by
          rw [k1, h9] at hφ'
          injection hφ' with hφ'
          injection hφ' with q1 q2 q3
          injection q1 with q1
          injection q1 with q1 q4
          subst q1
          rw [World.cell?_of_block (hfr.block g (k4 g (by rw [h13]; simp)).2 hgbb)]
          exact hcell)
      refine ⟨_, _, _, B, φ, _, rfl, hK, ?_, n', R'.env, R'.obj, R'.sep, R'.low, fun i hi => R'.new i (hn' i hi)⟩
      exact resV_rel p5 (p6 _ _ fun n hn => by simp at hn)
    · cases h
  · cases h

theorem eff_call (hG : GOk P G) (Rl : Rel P B new s tmps w φ β) {dst : Option Nat} (hnew : ∀ d, dst = some d → ∀ j, j < 32 → new (32 * (d + 1) + j)) {σr : Sto} (hσ : ∀ id o, σr id = some o → s.sto id = some o)
    {f : FuncId} {vs : List V} {vals : List Value} {K : Kont R} (hv : VsR P s.sto φ w B vs vals) (hself : ∀ F, G f = some F → SelfOk f F.ps vals w) (h : callF G σr dst f vs K = some r) :
    Calls P f vals.toArray w fun e w' => ∃ v u val B' φ' β', e = .returned val ∧ K v u = some r ∧ VR P (s.sto.puts u) φ' w' B' v val ∧ (Nx s.sto φ w B (s.sto.puts u) φ' w' B' ∧ Gr s.sto w B β (s.sto.puts u) w' B' β') ∧
      Rel P B' (fun i => new i ∧ ∀ d, dst = some d → ¬ (32 * (d + 1) ≤ i ∧ i < 32 * (d + 1) + 32)) ⟨s.env, s.sto.puts u⟩ tmps w' φ' β' := by
  unfold callF at h
  split at h
  · rename_i F hF
    cases hb : hasEl F.ps vs with
    | true => rw [hb] at h; exact eff_row (hG _ _ hF) Rl (fun i hi => hi.1) hσ hv (hself F hF) h
    | false => rw [hb] at h; exact eff_call0 hG Rl hnew hσ hv hself h
  · cases h
end
end Go.PV
