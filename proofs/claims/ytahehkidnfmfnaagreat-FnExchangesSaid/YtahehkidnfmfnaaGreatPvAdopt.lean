/- Objects that a call hands back, or that a function begins with. -/
import Derived.Test.YtahehkidnfmfnaaGreatPvCopy
set_option linter.all false
namespace Go.PV
open Go

structure NObj where
  id : Id
  o : PObj
  hdr : Value
  bs : List Nat
def NObj.up (n : NObj) : Id × Option PObj := (n.id, some n.o)
def hdrOk : PObj → Value → Prop
  | .sl _ _ _ _ _ _, v => ∃ A k c, v = .slice A k c
  | _, _ => True
def NObj.Ok (P : Program) (w : World) (B : Nat → Prop) (n : NObj) : Prop := (∀ σ φ, ObR P σ φ w B n.hdr n.bs n.o) ∧ hdrOk n.o n.hdr
def TurnedO (o : PObj) (old : Option PObj) : Prop := ∀ e t m xs hv hole, o = .sl e t m xs hv hole → ∃ e0 m0 xs0 hv0 hole0, old = some (.sl e0 t m0 xs0 hv0 hole0) ∧ hv0 < hv ∧ (m = .deep → m0 = .deep)

def look : List NObj → Id → Option NObj
  | [], _ => none
  | n :: l, j => if j = n.id then some n else look l j

theorem look_cons (n : NObj) (l : List NObj) (j : Id) : look (n :: l) j = if j = n.id then some n else look l j := rfl
theorem look_some : ∀ {l : List NObj} {j : Id} {n : NObj}, look l j = some n → n ∈ l ∧ n.id = j := by
  intro l
  induction l with
  | nil => intro j n h; cases h
  | cons m l ih =>
    intro j n h
    unfold look at h
    split at h
    · rename_i e; injection h with h; subst h; exact ⟨by simp, e.symm⟩
    · obtain ⟨h1, h2⟩ := ih h; exact ⟨by simp [h1], h2⟩
theorem look_mem : ∀ {l : List NObj}, (l.map (·.id)).Nodup → ∀ n ∈ l, look l n.id = some n := by
  intro l
  induction l with
  | nil => intro _ n h; simp at h
  | cons m l ih =>
    intro hn n h
    simp only [List.map_cons, List.nodup_cons] at hn
    unfold look
    rcases List.mem_cons.1 h with rfl | h
    · simp
    · rw [if_neg]
      · exact ih hn.2 n h
      · intro e
        exact hn.1 (e ▸ List.mem_map.2 ⟨n, h, rfl⟩)
theorem look_none : ∀ {l : List NObj} {j : Id}, look l j = none ↔ j ∉ l.map (·.id) := by
  intro l
  induction l with
  | nil => intro j; simp [look]
  | cons m l ih =>
    intro j
    unfold look
    by_cases h : j = m.id
    · simp [h]
    · rw [if_neg h, ih]; simp [h]

theorem puts_up : ∀ (l : List NObj) (σ : Sto) (j : Id), (l.map (·.id)).Nodup → (σ.puts (l.map NObj.up)) j = match look l j with
    | some n => some n.o
    | none => σ j := by
  intro l
  induction l with
  | nil => intro σ j _; rfl
  | cons m l ih =>
    intro σ j hn
    simp only [List.map_cons, List.nodup_cons] at hn
    show ((σ.put m.id (some m.o)).puts (l.map NObj.up)) j = _
    rw [ih _ j hn.2, look_cons]
    by_cases h : j = m.id
    · have hl : look l j = none := look_none.2 (by rw [h]; exact hn.1)
      rw [hl, if_pos h]
      simp only [h]
      exact put_same _ _ _
    · rw [if_neg h]
      cases look l j with
      | some n => rfl
      | none => exact put_other _ _ h

section
variable {P : Program} {B : Nat → Prop} {new : Id → Prop} {s : St} {tmps : Array Value} {w : World} {φ : Hd} {β : Bl}

def phiL (φ : Hd) (L : List NObj) : Hd := fun j => match look L j with
  | some n => some n.hdr
  | none => φ j
def betaL (β : Bl) (L : List NObj) : Bl := fun j => match look L j with
  | some n => n.bs
  | none => β j
theorem phiL_mem {φ : Hd} {L : List NObj} (h : (L.map (·.id)).Nodup) {n : NObj} (hn : n ∈ L) : phiL φ L n.id = some n.hdr := by
  unfold phiL
  rw [look_mem h n hn]

theorem Rel.adopt (Rl : Rel P B new s tmps w φ β) {gone : List Id} {L : List NObj} {w' : World} {K B' : Nat → Prop} (hnd : (L.map (·.id)).Nodup)
    (hid : ∀ n ∈ L, new n.id ∨ (n.id ∈ gone ∧ φ n.id = some n.hdr ∧ TurnedO n.o (s.sto n.id)))
    (hok : ∀ n ∈ L, ∀ σ φ', (∀ m ∈ L, φ' m.id = some m.hdr) → ObR P σ φ' w' B' n.hdr n.bs n.o) (hbn : (L.flatMap (·.bs)).Nodup) (hbs : ∀ n ∈ L, ∀ b ∈ n.bs, ¬ B' b ∧ b < w'.heap.size ∧ (∀ k, k ∉ gone → s.sto k ≠ none → b ∉ β k) ∧ (w.heap.size ≤ b ∨ ∃ k, s.sto k ≠ none ∧ b ∈ β k))
    (hK : Fr w w' K) (hKu : ∀ b, (∀ j, s.sto j ≠ none → b ∉ β j) → K b) (hrd : ∀ b, B' b → B b ∨ w.heap.size ≤ b ∨ ∃ k, s.sto k ≠ none ∧ b ∈ β k) (hKB : ∀ b, B b → K b) (hKo : ∀ k, k ∉ gone → s.sto k ≠ none → ∀ b ∈ β k, K b) (hBB : ∀ b, B b → B' b) (hlow : ∀ b, B' b → b < w'.heap.size)
    (hB' : ∀ k, k ∉ gone → s.sto k ≠ none → ∀ b ∈ β k, ¬ B' b) :
    (Nx s.sto φ w B (s.sto.puts ((gone.map fun i => (i, none)) ++ L.map NObj.up)) (phiL φ L) w' B' ∧ Gr s.sto w B β (s.sto.puts ((gone.map fun i => (i, none)) ++ L.map NObj.up)) w' B' (betaL β L)) ∧
      Rel P B' (fun i => new i ∧ i ∉ L.map (·.id)) ⟨s.env, s.sto.puts ((gone.map fun i => (i, none)) ++ L.map NObj.up)⟩ tmps w' (phiL φ L) (betaL β L) := by
  have hσ : ∀ j, (s.sto.puts ((gone.map fun i => (i, none)) ++ L.map NObj.up)) j = match look L j with
      | some n => some n.o
      | none => if j ∈ gone then none else s.sto j := fun j => by
    rw [puts_append, puts_up _ _ _ hnd, puts_none]
  have hnewn : ∀ n ∈ L, new n.id → φ n.id = none := fun n _ h => Rl.new _ h
  refine Rel.gen0 (T := fun j => j ∈ gone ∨ j ∈ L.map (·.id)) (K := K) Rl (fun j hj => ?_) (fun j v hv => ?_) hK hKu hrd hKB (fun j hj hs => hKo j (fun h => hj (.inl h)) hs) hBB hlow
    (fun j hj hs => hB' j (fun h => hj (.inl h)) hs) (fun j o hj ho => ?_) (fun i j hij hi hj hsi hsj b hbi hbj => ?_) (fun j hj hn e t m xs hv hole hs => ?_)
    (fun i e a b xs hv hole e' xs' hole' g of n c hi hs hs' hφ => ?_) (fun i hi => ?_)
  · have h1 : j ∉ gone := fun h => hj (.inl h)
    have h2 : look L j = none := look_none.2 fun h => hj (.inr h)
    refine ⟨?_, ?_, ?_⟩
    · rw [hσ, h2]
      simp [h1]
    · simp [phiL, h2]
    · simp [betaL, h2]
  · unfold phiL
    cases hl : look L j with
    | none => exact hv
    | some n =>
      obtain ⟨h1, h2⟩ := look_some hl
      subst h2
      rcases hid n h1 with h | ⟨_, h, _⟩
      · rw [hnewn n h1 h] at hv; cases hv
      · rw [h] at hv; exact hv
  · rw [hσ] at ho
    cases hl : look L j with
    | none =>
      rw [hl] at ho
      simp only at ho
      split at ho
      · cases ho
      · rename_i hg
        rcases hj with h | h
        · exact absurd h hg
        · exact absurd h (look_none.1 hl)
    | some n =>
      obtain ⟨h1, h2⟩ := look_some hl
      subst h2
      rw [hl] at ho
      simp only at ho
      injection ho with ho
      subst ho
      have hb : betaL β L n.id = n.bs := by simp [betaL, hl]
      rw [hb]
      refine ⟨fun _ => ⟨n.hdr, by simp [phiL, hl], hok n h1 _ _ fun m hm => phiL_mem hnd hm⟩, ?_, fun b hb => ⟨(hbs n h1 b hb).1, (hbs n h1 b hb).2.1, fun k hk => (hbs n h1 b hb).2.2.1 k fun h => hk (.inl h), (hbs n h1 b hb).2.2.2⟩⟩
      obtain ⟨l1, l2, rfl⟩ := List.append_of_mem h1
      rw [List.flatMap_append, List.flatMap_cons, List.nodup_append, List.nodup_append] at hbn
      exact hbn.2.1.1
  · have live : ∀ k, (k ∈ gone ∨ k ∈ L.map (·.id)) → (s.sto.puts ((gone.map fun i => (i, none)) ++ L.map NObj.up)) k ≠ none → ∃ n ∈ L, n.id = k ∧ betaL β L k = n.bs := fun k hk hs => by
      rw [hσ] at hs
      cases hl : look L k with
      | none =>
        rw [hl] at hs
        simp only at hs
        rcases hk with h | h
        · exact absurd (if_pos h) hs
        · exact absurd h (look_none.1 hl)
      | some n =>
        obtain ⟨h1, h2⟩ := look_some hl
        exact ⟨n, h1, h2, by simp [betaL, hl]⟩
    obtain ⟨n, h1, h2, h3⟩ := live i hi hsi
    obtain ⟨n', h1', h2', h3'⟩ := live j hj hsj
    rw [h3] at hbi
    rw [h3'] at hbj
    have hne : n ≠ n' := fun e => hij (by rw [← h2, ← h2', e])
    have hpw : L.Pairwise fun a b => ∀ x ∈ a.bs, x ∉ b.bs := by
      have := List.pairwise_flatMap.1 (show (L.flatMap (·.bs)).Pairwise (· ≠ ·) from hbn)
      exact this.2.imp fun h x hx hx' => h x hx x hx' rfl
    obtain ⟨a, ha, rfl⟩ := List.getElem_of_mem h1
    obtain ⟨b', hb', rfl⟩ := List.getElem_of_mem h1'
    have hab : a ≠ b' := fun e => hne (by subst e; rfl)
    rcases Nat.lt_or_gt_of_ne hab with hl | hl
    · exact List.pairwise_iff_getElem.1 hpw a b' ha hb' hl b hbi hbj
    · exact List.pairwise_iff_getElem.1 hpw b' a hb' ha hl b hbj hbi
  · rw [hσ] at hs
    cases hl : look L j with
    | none =>
      rw [hl] at hs
      simp only at hs
      split at hs
      · cases hs
      · rename_i hg
        rcases hj with h | h
        · exact absurd h hg
        · exact absurd h (look_none.1 hl)
    | some n =>
      obtain ⟨h1, h2⟩ := look_some hl
      subst h2
      rw [hl] at hs
      simp only at hs
      injection hs with hs
      rcases hid n h1 with h | ⟨_, _, h3⟩
      · exact absurd (hnewn n h1 h) hn
      · obtain ⟨e0, m0, xs0, hv0, hole0, h3, h4, h5⟩ := h3 _ _ _ _ _ _ hs
        exact ⟨_, _, _, _, _, h3, by omega, h5⟩
  · exfalso
    rw [hσ] at hs
    cases hl : look L i with
    | none =>
      rw [hl] at hs
      simp only at hs
      split at hs
      · cases hs
      · rename_i hg
        rcases hi with h | h
        · exact absurd h hg
        · exact absurd h (look_none.1 hl)
    | some k =>
      obtain ⟨h1, h2⟩ := look_some hl
      subst h2
      rw [hl] at hs
      simp only at hs
      injection hs with hs
      rcases hid k h1 with h | ⟨_, _, h3⟩
      · rw [hnewn k h1 h] at hφ; cases hφ
      · obtain ⟨e0, m0, xs0, hv0, hole0, h3, h4, h5⟩ := h3 _ _ _ _ _ _ hs
        rw [h3] at hs'
        injection hs' with hs'
        injection hs' with _ _ _ _ hs7
        omega
  · unfold phiL
    rw [look_none.2 hi.2]
    exact Rl.new i hi.1
end
end Go.PV
