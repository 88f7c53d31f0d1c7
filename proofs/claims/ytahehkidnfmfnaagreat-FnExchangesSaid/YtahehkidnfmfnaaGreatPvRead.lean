/- What comes in reads as pure data. -/
import Derived.Test.YtahehkidnfmfnaaGreatPvTab
import Derived.Deep.Slices
import Derived.OpenShut
set_option linter.all false
namespace Go.PV
open Go Go.Deep

def Wf : (t : Ty) → t.T → Prop
  | .int k, n => (Lit.int k n).wf = true
  | .pair a b, x => Wf a x.1 ∧ Wf b x.2
  | .list _ t, xs => (xs : List t.T).length ≤ maxLen ∧ ∀ y ∈ (xs : List t.T), Wf t y
  | _, _ => True

def elN (Γ : Tab) (e : TypeId) : Bool :=
  match Γ e with
  | some d => Nat.blt 0 d.ty.n
  | none => false
theorem elN_ok {Γ : Tab} {e : TypeId} {d : TD} (h : elN Γ e = true) (hd : Γ e = some d) : 0 < d.ty.n := by
  unfold elN at h
  rw [hd] at h
  exact blt_lt h

def elT (Γ : Tab) (e : TypeId) : Ty :=
  match Γ e with
  | some d => d.ty
  | none => .unit
def allB {α : Type} (f : α → Bool) : List α → Bool
  | [] => true
  | a :: r => both (f a) (allB f r)
theorem allB_ok {α : Type} {f : α → Bool} : ∀ {l : List α}, allB f l = true → ∀ a ∈ l, f a = true := by
  intro l
  induction l with
  | nil => intro _ a h; simp at h
  | cons b l ih =>
    intro h a ha
    obtain ⟨h1, h2⟩ := both_true.1 h
    rcases List.mem_cons.1 ha with rfl | ha
    · exact h1
    · exact ih h2 a ha

def readB (P : Program) (Γ : Tab) : Nat → TypeId → Bool
  | 0, _ => false
  | n + 1, τ => match Γ τ with
    | some d => match P.underlying τ with
      | some (.int k) => match d.ty with
        | .int k' => kb k' k
        | _ => false
      | some .bool => match d.ty with
        | .bool => true
        | _ => false
      | some .string => match d.ty with
        | .str => true
        | _ => false
      | some (.slice e) => both (readB P Γ n e) (both (elN Γ e) (match d.ty with
        | .list _ _ => true
        | _ => false))
      | some (.struct fields) => both (both (offsOk 0 d.fs) (tyb d.ty (nest (d.fs.map (·.2))))) (both (both d.ty.agg d.el.isNone) (allB (fun f => readB P Γ n f.type) fields.toList))
      | some (.array l e) => both (readB P Γ n e) (both (tyb d.ty (nest (List.replicate l (elT Γ e)))) (both d.ty.agg d.el.isSome))
      | _ => false
    | none => false

section
variable {H : Type} {enc : TypeId × Value → H} {P : Program} {Γ : Tab} {w : World} {spare : Nat → Bool} {held : Bool}

def BW (w : World) : Nat → Prop := fun b => b < w.heap.size

theorem nest_rd {B : Nat → Prop} : ∀ {ts : List Ty} {cs : List Value}, cs.length = (nest ts).n → (∀ (i : Nat) (t : Ty), ts[i]? = some t → ∃ y : t.T, Rd P t w B ((cs.drop ((ts.take i).map Ty.n).sum).take t.n) y ∧ Wf t y) →
    ∃ y : (nest ts).T, Rd P (nest ts) w B cs y ∧ Wf (nest ts) y := by
  intro ts
  induction ts with
  | nil =>
    intro cs hl _
    have : cs = [] := List.eq_nil_of_length_eq_zero hl
    exact ⟨(), this, trivial⟩
  | cons t ts ih =>
    intro cs hl h
    cases ts with
    | nil =>
      obtain ⟨y, h1, h2⟩ := h 0 t rfl
      refine ⟨y, ?_, h2⟩
      have e : (cs.drop (([t].take 0).map Ty.n).sum).take t.n = cs := by
        have hl : cs.length = t.n := hl
        simp [← hl]
      rw [e] at h1
      exact h1
    | cons u ts =>
      have hl : cs.length = t.n + (nest (u :: ts)).n := hl
      obtain ⟨y, h1, h2⟩ := h 0 t rfl
      obtain ⟨z, h3, h4⟩ := ih (cs := cs.drop t.n) (by simp [hl]) fun i t' hi => by
        obtain ⟨y', q1, q2⟩ := h (i + 1) t' (by simpa using hi)
        refine ⟨y', ?_, q2⟩
        rw [List.drop_drop]
        simpa [Nat.add_comm] using q1
      refine ⟨(y, z), ⟨_, _, (List.take_append_drop t.n cs).symm, by simpa using h1, h3⟩, h2, h4⟩

theorem offs_at : ∀ {fs : List (Nat × Ty)} {o i : Nat} {p : Nat × Ty}, offsOk o fs = true → fs[i]? = some p → p.1 = o + (((fs.map (·.2)).take i).map Ty.n).sum := by
  intro fs
  induction fs with
  | nil => intro o i p _ h; simp at h
  | cons q fs ih =>
    intro o i p h hi
    obtain ⟨h1, h2⟩ := both_true.1 h
    cases i with
    | zero => simp at hi; subst hi; simpa using beq_eq h1
    | succ i =>
      have := ih h2 (by simpa using hi)
      rw [this]
      simp
      omega

theorem addr_add (g o i : Nat) : (⟨g, o, none⟩ : Addr).add i = ⟨g, o + i, none⟩ := by
  unfold Addr.add
  by_cases h : i = 0
  · simp [h]
  · simp [h]

theorem trod_rd (hΓ : TabOk P Γ) : ∀ (n : Nat) (τ : TypeId) (d : TD) (fuel : Nat) (cs : List Value) (x : DataW H × List MemPlace), readB P Γ n τ = true → Γ τ = some d → DataW.trod enc P w 0 spare held fuel τ cs = some x →
    ∃ y : d.ty.T, Rd P d.ty w (BW w) cs y ∧ Wf d.ty y := by
  intro n
  induction n with
  | zero => intro τ d fuel cs x h; cases h
  | succ n ih =>
    intro τ d fuel cs x h hd ht
    obtain ⟨i, z, u, I⟩ := hΓ τ d hd
    unfold readB at h
    rw [hd, I.under] at h
    dsimp only at h
    have agree : d.ty.agg = aggDesc u := I.agg.symm
    cases u with
    | int k =>
      dsimp only at h
      split at h
      · rename_i k' hq
        have := kb_eq h
        subst this
        rw [hq]
        obtain ⟨m, rfl, rfl, hw⟩ := DataW.trod_int I.under ht
        exact ⟨m, rfl, hw⟩
      · cases h
    | bool =>
      dsimp only at h
      split at h
      · rename_i hq
        rw [hq]
        obtain ⟨b, rfl, rfl⟩ := DataW.trod_bool I.under ht
        exact ⟨b, rfl, trivial⟩
      · cases h
    | string =>
      dsimp only at h
      split at h
      · rename_i hq
        rw [hq]
        obtain ⟨b, rfl, rfl, _⟩ := DataW.trod_string I.under ht
        exact ⟨b, rfl, trivial⟩
      · cases h
    | slice e =>
      dsimp only at h
      obtain ⟨h1, h2⟩ := both_true.1 h
      obtain ⟨h3, h4⟩ := both_true.1 h2
      split at h4
      · rename_i e' t hq
        obtain ⟨hu, ⟨l, hel⟩, d', hd', hdt⟩ := I.list _ _ hq
        cases hu
        rw [hq]
        subst hdt
        have hn := elN_ok h3 hd'
        obtain ⟨i', z', u', I'⟩ := hΓ e d' hd'
        have hce : P.cellsOf e = d'.ty.n := by simp [Program.cellsOf, I'.info, I'.size]
        rcases open_slice I.under ht with ⟨rfl, rfl⟩ | ⟨a, len, cap, m, nn, D, Pl, rfl, hb, hl, hcap, hm, rfl, hx⟩
        · exact ⟨[], ⟨none, 0, rfl, Nat.le_refl _, fun h => absurd h (Nat.lt_irrefl _)⟩, Nat.zero_le _, by simp⟩
        · have hlm : len ≤ m := by rw [hm]; split <;> omega
          have hex : ∀ i, i < len → ∃ y : d'.ty.T, ∃ us, us.length = d'.ty.n ∧ w.cells? 0 (a.add (i * P.cellsOf e)) (P.cellsOf e) = some us ∧ Rd P d'.ty w (BW w) us y ∧ Wf d'.ty y := fun i hi => by
            obtain ⟨cs', q1, q2⟩ := hx i (by omega)
            obtain ⟨y, q3, q4⟩ := ih e d' nn cs' _ h1 hd' q2
            exact ⟨y, cs', by rw [(World.cells?_some q1).2.1, hce], q1, q3, q4⟩
          have : Inhabited d'.ty.T := ⟨d'.ty.dflt⟩
          obtain ⟨Y, hY⟩ := choose_lt hex
          have hsp : 0 < len → a.spot = none ∧ a.block < w.heap.size := fun h0 => by
            obtain ⟨us, q1, q2, _⟩ := hY 0 h0
            obtain ⟨_, q3, q4⟩ := World.cells?_some q2
            have q5 := q4 0 (by rw [hce]; exact hn)
            rw [hce] at q3
            rw [List.getElem?_eq_getElem (by omega)] at q5
            have e0 : (a.add (0 * P.cellsOf e)).add 0 = a := by simp [Addr.add]
            rw [e0] at q5
            refine ⟨?_, World.block_lt_of_cell? w _ q5⟩
            unfold World.cell? at q5
            split at q5
            · cases hs : a.spot with
              | none => rfl
              | some s => rw [hs] at q5; simp at q5
            · cases q5
          refine ⟨(List.range len).map Y, ⟨some a, cap, by simp, by simpa using hl, fun h0 => ?_⟩, by simp; omega, fun y hy => ?_⟩
          · obtain ⟨s1, s2⟩ := hsp (by simpa using h0)
            obtain ⟨g, o, sp⟩ := a
            dsimp only at s1 s2
            subst s1
            refine ⟨g, o, rfl, s2, fun i hi => ?_⟩
            have hi' : i < len := by simpa using hi
            obtain ⟨us, q1, q2, q3, q4⟩ := hY i hi'
            refine ⟨us, q1, fun j hj => ?_, by simpa using q3⟩
            have := (World.cells?_some q2).2.2 j (by rw [hce, ← q1]; exact hj)
            rw [addr_add, addr_add, hce, List.getElem?_eq_getElem hj] at this
            exact this
          · obtain ⟨i, hi, rfl⟩ := List.mem_map.1 hy
            obtain ⟨us, q1, q2, q3, q4⟩ := hY i (List.mem_range.1 hi)
            exact q4
      · cases h4
    | struct fields =>
      dsimp only at h
      obtain ⟨h1, h2⟩ := both_true.1 h
      obtain ⟨h3, h4⟩ := both_true.1 h1
      obtain ⟨h5, h6⟩ := both_true.1 h2
      obtain ⟨h7, h8⟩ := both_true.1 h5
      have h4 := tyb_eq h4
      have hel : d.el = none := by simpa using h8
      obtain ⟨fl, hfl, hsz, hf⟩ := I.struct h7 hel
      cases hfl
      obtain ⟨xs, m, _, rfl, hcl, hxl, hxs⟩ := DataW.trod_struct I.under ht
      have hcn : P.cellsOf τ = d.ty.n := by simp [Program.cellsOf, I.info, I.size]
      rw [h4]
      refine nest_rd (by rw [hcl, hcn, h4]) fun i t hi => ?_
      rw [List.getElem?_map] at hi
      obtain ⟨p, hp, rfl⟩ := Option.map_eq_some_iff.1 hi
      obtain ⟨fi, k1, k2, ⟨d', k3, k4⟩, k5⟩ := hf i p.1 p.2 hp
      have hlt : i < fields.size := (Array.getElem?_eq_some_iff.1 k1).1
      have hxi := hxs i fi k1
      rw [List.getElem?_eq_getElem (by omega)] at hxi
      have hr : readB P Γ n fi.type = true := allB_ok h6 fi (by
        obtain ⟨_, e⟩ := Array.getElem?_eq_some_iff.1 k1
        rw [← e]
        simp)
      obtain ⟨i', z', u', I'⟩ := hΓ _ d' k3
      have hce : P.cellsOf fi.type = d'.ty.n := by simp [Program.cellsOf, I'.info, I'.size]
      obtain ⟨y, q1, q2⟩ := ih fi.type d' m _ _ hr k3 hxi
      rw [k2, hce, offs_at h3 hp, Nat.zero_add] at q1
      rw [← k4]
      rw [← k4] at hi
      exact ⟨y, q1, q2⟩
    | array l e =>
      dsimp only at h
      obtain ⟨h1, h2⟩ := both_true.1 h
      obtain ⟨h3, h4⟩ := both_true.1 h2
      obtain ⟨h7, h8⟩ := both_true.1 h4
      have h3 := tyb_eq h3
      obtain ⟨⟨e', t', l'⟩, hel⟩ := Option.isSome_iff_exists.1 h8
      obtain ⟨hu, ⟨d', k3, k4⟩, hln⟩ := I.array h7 _ _ _ hel
      cases hu
      obtain ⟨xs, m, _, rfl, hcl, hxl, hxs⟩ := DataW.trod_array I.under ht
      have hcn : P.cellsOf τ = d.ty.n := by simp [Program.cellsOf, I.info, I.size]
      obtain ⟨i', z', u', I'⟩ := hΓ _ d' k3
      have hce : P.cellsOf e = d'.ty.n := by simp [Program.cellsOf, I'.info, I'.size]
      have helT : elT Γ e = d'.ty := by simp [elT, k3]
      rw [helT] at h3
      rw [h3]
      refine nest_rd (by rw [hcl, hcn, h3]) fun i t hi => ?_
      rw [List.getElem?_replicate] at hi
      split at hi
      · rename_i hil
        cases hi
        have hxi := hxs i hil
        rw [List.getElem?_eq_getElem (by omega)] at hxi
        obtain ⟨y, q1, q2⟩ := ih e d' m _ _ h1 k3 hxi
        refine ⟨y, ?_, q2⟩
        have es : (((List.replicate l d'.ty).take i).map Ty.n).sum = i * d'.ty.n := by
          rw [List.take_replicate, List.map_replicate, Nat.min_eq_left (Nat.le_of_lt hil)]
          simp
        rw [es, ← hce]
        exact q1
      · cases hi
    | _ => cases h
end
end Go.PV
