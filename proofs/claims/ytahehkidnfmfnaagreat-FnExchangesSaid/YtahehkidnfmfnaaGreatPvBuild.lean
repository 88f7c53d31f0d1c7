/- Literals. -/
import Derived.Test.YtahehkidnfmfnaaGreatPvEff
set_option linter.all false
namespace Go.PV
open Go

section
variable {P : Program} {Γ : Tab} {σ : Sto} {φ : Hd} {w : World} {B : Nat → Prop} {R : Type} {r : R}

theorem foldl_set (off : Nat) : ∀ (us : List Value) (k : Nat) (cells : Array Value), off + k + us.length ≤ cells.size →
    ((us.zipIdx k).foldl (fun cs (p : Value × Nat) => cs.setIfInBounds (off + p.2) p.1) cells).toList = cells.toList.take (off + k) ++ us ++ cells.toList.drop (off + k + us.length) := by
  intro us
  induction us with
  | nil => intro k cells h; simp
  | cons u us ih =>
    intro k cells h
    simp only [List.length_cons] at h
    rw [List.zipIdx_cons, List.foldl_cons, ih (k + 1) _ (by simp; omega)]
    have hlt : off + k < cells.toList.length := by simp; omega
    have e1 : (cells.setIfInBounds (off + k) u).toList = cells.toList.set (off + k) u := by simp
    rw [e1]
    have e2 : (cells.toList.set (off + k) u).take (off + (k + 1)) = cells.toList.take (off + k) ++ [u] := by
      rw [← Nat.add_assoc, List.take_add_one, List.take_set_of_le (Nat.le_refl _)]
      rw [List.getElem?_set_self hlt]; rfl
    have e3 : (cells.toList.set (off + k) u).drop (off + (k + 1) + us.length) = cells.toList.drop (off + k + (u :: us).length) := by
      rw [List.drop_set_of_lt (by omega)]
      congr 1
      simp; omega
    rw [e2, e3]
    simp

def PsR (P : Program) (σ : Sto) (φ : Hd) (w : World) (B : Nat → Prop) : List (Nat × V) → List (Nat × Value) → Prop
  | [], [] => True
  | p :: vs, q :: us => p.1 = q.1 ∧ VR P σ φ w B p.2 q.2 ∧ PsR P σ φ w B vs us
  | _, _ => False

theorem CsR.setCs {cs ds : List C} {us vs : List Value} (h : CsR P σ φ w B cs us) (h' : CsR P σ φ w B ds vs) (o : Nat) :
    CsR P σ φ w B (setCs cs o ds) (us.take o ++ vs ++ us.drop (o + vs.length)) := by
  have := ((h.take o).append h').append (h.drop (o + vs.length))
  unfold PV.setCs
  rw [← h'.1]
  exact this

theorem fill_set (off : Nat) (v cells : Array Value) (h : off + v.size ≤ cells.size) :
    (v.zipIdx.foldl (fun cs (p : Value × Nat) => cs.setIfInBounds (off + p.2) p.1) cells).toList = cells.toList.take off ++ v.toList ++ cells.toList.drop (off + v.size) := by
  rw [← Array.foldl_toList, Array.toList_zipIdx]
  have := foldl_set off v.toList 0 cells (by simpa using h)
  simpa using this

theorem fill_rel {place place' : Nat → Option (Nat × Nat)} (hp : ∀ i p, place i = some p → place' i = some p) :
    ∀ {parts : List (Nat × V)} {vparts : List (Nat × Value)} {cs ds : List C} {cells : Array Value}, PsR P σ φ w B parts vparts → CsR P σ φ w B cs cells.toList →
      fillCs place parts cs = some ds → ∃ cells' : Array Value, Instr.fill place' cells vparts = some cells' ∧ CsR P σ φ w B ds cells'.toList ∧ cells'.size = cells.size := by
  intro parts
  induction parts with
  | nil =>
    intro vparts cs ds cells hv hc h
    cases vparts with
    | cons q us => exact False.elim hv
    | nil => injection h with h; subst h; exact ⟨cells, rfl, hc, rfl⟩
  | cons p parts ih =>
    intro vparts cs ds cells hv hc h
    cases vparts with
    | nil => exact False.elim hv
    | cons q vparts =>
      obtain ⟨i, v⟩ := p
      obtain ⟨j, u⟩ := q
      obtain ⟨e, hvu, hv'⟩ := hv
      simp only at e
      subst e
      simp only [fillCs] at h
      split at h
      · rename_i o n us hpl hus
        obtain ⟨hb, h⟩ := cond_some h
        obtain ⟨h1, h2⟩ := both_true.1 hb
        have h1 := beq_eq h1
        have h2 := ble_le h2
        have hr := cells_rel hvu hus
        have hsz : u.cells.size = n := by rw [← h1, ← hr.1]; simp
        have hcl := hc.1
        have hle : o + u.cells.size ≤ cells.size := by
          rw [hsz]
          have : cells.size = cs.length := by simpa using hcl
          omega
        have hf := fill_set o u.cells cells hle
        have hc' : CsR P σ φ w B (setCs cs o us) (u.cells.zipIdx.foldl (fun cs (p : Value × Nat) => cs.setIfInBounds (o + p.2) p.1) cells).toList := by
          rw [hf]
          have := hc.setCs hr o
          simpa using this
        obtain ⟨cells', h3, h4, h5⟩ := ih hv' hc' h
        refine ⟨cells', ?_, h4, ?_⟩
        · simp only [Instr.fill, hp _ _ hpl]
          rw [if_neg (by simp [hsz]; omega)]
          exact h3
        · rw [h5]
          have := congrArg List.length hf
          rw [Array.length_toList] at this
          rw [this]
          simp
          omega
      · cases h

theorem places_run (hΓ : TabOk P Γ) (fields : Array Field) : ∀ (fs : List Field), (∀ f ∈ fs, ∃ i, P.info? f.type = some i) →
    ∃ l : List (Nat × Nat), (fs.mapM (m := Sem) fun f => do pure (f.offset, ← sizeOf f.type)).run P w = .ok l w ∧ l.length = fs.length ∧
      ∀ (k : Nat) (f : Field) (i : TypeInfo), fs[k]? = some f → P.info? f.type = some i → l[k]? = some (f.offset, i.size) := by
  intro fs
  induction fs with
  | nil => intro _; exact ⟨[], by simp, rfl, by simp⟩
  | cons f fs ih =>
    intro h
    obtain ⟨i, hi⟩ := h f (by simp)
    obtain ⟨l, h1, h2, h3⟩ := ih fun g hg => h g (by simp [hg])
    refine ⟨(f.offset, i.size) :: l, ?_, by simp [h2], fun k g j hk hj => ?_⟩
    · simp only [bind_pure_comp] at h1
      simp [List.mapM_cons, run_size hi, h1]
    · cases k with
      | zero =>
        simp at hk
        subst hk
        rw [hi] at hj
        injection hj with hj
        subst hj
        rfl
      | succ k => simpa using h3 k g j (by simpa using hk) hj

theorem sim_build (hΓ : TabOk P Γ) {s : TypeId} {parts : List (Nat × V)} {vparts : Array (Nat × Value)} {K : Kont R} (hp : PsR P σ φ w B parts vparts.toList) (h : buildF Γ s parts K = some r) :
    Gives P σ φ w B (Instr.build s vparts) K r := by
  unfold buildF at h
  split at h
  · rename_i t fs hs
    obtain ⟨hta, h⟩ := cond_some h
    obtain ⟨ds, hds, h⟩ := ob_some h
    obtain ⟨i, z, u, I⟩ := hΓ _ _ hs
    obtain ⟨fields, rfl, hsz, hfs⟩ := I.struct hta rfl
    have hall : ∀ f ∈ fields.toList, ∃ i, P.info? f.type = some i := by
      intro f hf
      obtain ⟨k, hk, rfl⟩ := List.getElem_of_mem hf
      have hk' : k < fs.length := by rw [← hsz]; simpa using hk
      obtain ⟨fl, h1, _, ⟨d', h2, _⟩, _⟩ := hfs k fs[k].1 fs[k].2 (by simp [hk'])
      obtain ⟨i', _, _, I'⟩ := hΓ _ _ h2
      have : fields.toList[k] = fl := by
        have := List.getElem?_eq_getElem hk
        rw [Array.getElem?_toList, h1] at this
        injection this with this
        exact this.symm
      rw [this]
      exact ⟨i', I'.info⟩
    obtain ⟨l, hl1, hl2, hl3⟩ := places_run (P := P) (w := w) hΓ fields fields.toList hall
    have hzc := zero_cs (P := P) (σ := σ) (φ := φ) (w := w) (B := B) I.zeroOk
    obtain ⟨cells, h1, h2, _⟩ := fill_rel (place' := fun k => l[k]?) (fun k p hk => by
      obtain ⟨q, hq, rfl⟩ := Option.map_eq_some_iff.1 hk
      obtain ⟨fl, h1, h2, ⟨d', h3, h4⟩, _⟩ := hfs k q.1 q.2 hq
      obtain ⟨i', _, _, I'⟩ := hΓ _ _ h3
      have := hl3 k fl i' (by simpa using h1) I'.info
      rw [this, h2, I'.size, h4]) hp hzc.1 hds
    refine ⟨_, .agg cells, h, ⟨cells.toList, rfl, h2⟩, ?_⟩
    have hm : (fields.mapM (m := Sem) fun f => do pure (f.offset, ← sizeOf f.type)).run P w = .ok l.toArray w := by
      rw [Array.mapM_eq_mapM_toList, Sem.run_map, hl1]
      rfl
    simp only [bind_pure_comp] at hm
    simp [Instr.build, zeroValue, run_info I.info, I.zero, run_und I.under, hm, h1]
  · rename_i t fs e u len hs
    obtain ⟨hta, h⟩ := cond_some h
    obtain ⟨ds, hds, h⟩ := ob_some h
    obtain ⟨i, z, u', I⟩ := hΓ _ _ hs
    obtain ⟨rfl, ⟨d', hd', ht⟩, hlen⟩ := I.array hta _ _ _ rfl
    obtain ⟨i', _, _, I'⟩ := hΓ _ _ hd'
    have hzc := zero_cs (P := P) (σ := σ) (φ := φ) (w := w) (B := B) I.zeroOk
    obtain ⟨cells, h1, h2, _⟩ := fill_rel (place' := fun k => some (k * u.n, u.n)) (fun k p hk => hk) hp hzc.1 hds
    refine ⟨_, .agg cells, h, ⟨cells.toList, rfl, h2⟩, ?_⟩
    have hsz : i'.size = u.n := by rw [I'.size, ht]
    simp [Instr.build, zeroValue, run_info I.info, I.zero, run_und I.under, run_size I'.info, hsz, h1]
  · cases h
end
end Go.PV
