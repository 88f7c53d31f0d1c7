/- Operations that make, take over and turn objects. -/
import Derived.Test.YtahehkidnfmfnaaGreatPvVal2
import Derived.Laws.MakeOwn
set_option linter.all false
namespace Go.PV
open Go

section
variable {P : Program} {Γ : Tab} {B : Nat → Prop} {new : Id → Prop} {s : St} {tmps : Array Value} {w : World} {φ : Hd} {β : Bl} {R : Type} {r : R}

def setH {α : Type} (f : Id → α) (i : Id) (v : α) : Id → α := fun j => if j = i then v else f j
theorem setH_same {α : Type} (f : Id → α) (i : Id) (v : α) : setH f i v i = v := by simp [setH]
theorem setH_other {α : Type} (f : Id → α) {i j : Id} (v : α) (h : j ≠ i) : setH f i v j = f j := by simp [setH, h]

def Eff (P : Program) (B : Nat → Prop) (new' : Id → Prop) (s : St) (tmps : Array Value) (w : World) (φ : Hd) (β : Bl) (S : Sem Value) (K : Kont R) (r : R) : Prop :=
  ∃ v u val w' B' φ' β', K v u = some r ∧ S.run P w = .ok val w' ∧ VR P (s.sto.puts u) φ' w' B' v val ∧ (Nx s.sto φ w B (s.sto.puts u) φ' w' B' ∧ Gr s.sto w B β (s.sto.puts u) w' B' β') ∧
    Rel P B' new' ⟨s.env, s.sto.puts u⟩ tmps w' φ' β'

theorem Gives.eff {new' : Id → Prop} {S : Sem Value} {K : Kont R} (Rl : Rel P B new s tmps w φ β) (hn : ∀ i, new' i → new i) (h : Gives P s.sto φ w B S K r) : Eff P B new' s tmps w φ β S K r := by
  obtain ⟨v, val, h1, h2, h3⟩ := h
  refine ⟨v, [], val, w, B, φ, β, h1, h3, h2, ⟨⟨fun _ _ h => h, fun _ _ e t m xs hv hole h => ⟨e, m, xs, hv, hole, h, Nat.le_refl _, fun h => h⟩, fun _ h => h, Fr.refl _ _, fun _ _ _ _ _ _ _ _ _ _ _ _ _ _ _ _ _ _ _ _ h => h⟩, Gr.refl _ _ _ _⟩,
    ⟨Rl.env, Rl.obj, Rl.sep, Rl.low, fun i hi => Rl.new i (hn i hi)⟩⟩

theorem Rel.free (Rl : Rel P B new s tmps w φ β) {i : Id} (h : new i) : s.sto i = none := by
  cases h2 : s.sto i with
  | none => rfl
  | some o =>
    obtain ⟨v, h3, _⟩ := Rl.obj i o h2
    rw [Rl.new i h] at h3
    cases h3

theorem Rel.make (Rl : Rel P B new s tmps w φ β) {id : Id} (hid : new id) {σ' : Sto} {o : PObj} {hdr : Value} {bs : List Nat} {w' : World} {K : Nat → Prop} {gone : List Id}
    (ho : σ' id = some o) (hgone : ∀ j, j ≠ id → j ∈ gone → σ' j = none) (hstay : ∀ j, j ≠ id → j ∉ gone → σ' j = s.sto j)
    (hK : Fr w w' K) (hKu : ∀ b, (∀ j, s.sto j ≠ none → b ∉ β j) → K b) (hKB : ∀ b, B b → K b) (hKo : ∀ j, j ∉ gone → s.sto j ≠ none → ∀ b ∈ β j, K b)
    (hnd : bs.Nodup) (hbs : ∀ b ∈ bs, b < w'.heap.size ∧ (w.heap.size ≤ b ∨ ∃ c ∈ gone, s.sto c ≠ none ∧ b ∈ β c))
    (hobj : Nx s.sto φ w B σ' (setH φ id (some hdr)) w' B → ObR P σ' (setH φ id (some hdr)) w' B hdr bs o) :
    (Nx s.sto φ w B σ' (setH φ id (some hdr)) w' B ∧ Gr s.sto w B β σ' w' B (setH β id bs)) ∧ Rel P B (fun i => new i ∧ i ≠ id) ⟨s.env, σ'⟩ tmps w' (setH φ id (some hdr)) (setH β id bs) := by
  have hidn : φ id = none := Rl.new id hid
  have hids : s.sto id = none := Rl.free hid
  refine Rel.gen (T := fun j => j = id ∨ j ∈ gone) (K := K) Rl (fun j hj => ?_) (fun j v hv => ?_) hK hKu (fun _ h => .inl h) hKB (fun j hj hs b hb => ?_) (fun _ h => h) (fun b hb => Nat.lt_of_lt_of_le (Rl.low b hb) hK.size)
    (fun j hj hs b hb => ?_) (fun j o' hj ho' => ?_) (fun i j hij hi hj hsi hsj b hbi hbj => ?_) (fun j hj hn e t m xs hv hole hs => ?_) (fun i e a b xs hv hole e' xs' hole' g o n c hi hs hs' => ?_) (fun i hi => ?_)
  · have h1 : j ≠ id := fun e => hj (.inl e)
    have h2 : j ∉ gone := fun e => hj (.inr e)
    exact ⟨hstay j h1 h2, setH_other _ _ h1, setH_other _ _ h1⟩
  · by_cases h : j = id
    · subst h; rw [hidn] at hv; cases hv
    · rw [setH_other _ _ h]; exact hv
  · exact hKo j (fun e => hj (.inr e)) hs b hb
  · obtain ⟨oj, hoj⟩ := Option.ne_none_iff_exists'.1 hs
    obtain ⟨_, _, _, _, h4⟩ := Rl.obj j oj hoj
    exact (h4 b hb).1
  · by_cases h : j = id
    · subst h
      rw [ho] at ho'
      injection ho' with ho'
      subst ho'
      have e2 : setH β j bs j = bs := setH_same _ _ _
      rw [e2]
      refine ⟨fun n => ⟨hdr, setH_same _ _ _, hobj n⟩, hnd, fun b hb => ⟨fun hB => ?_, (hbs b hb).1, ?_⟩⟩
      · rcases (hbs b hb).2 with h | ⟨c, hc, hc', hb'⟩
        · exact absurd (Rl.low b hB) (by omega)
        · obtain ⟨oc, hoc⟩ := Option.ne_none_iff_exists'.1 hc'
          obtain ⟨_, _, _, _, h4⟩ := Rl.obj c oc hoc
          exact (h4 b hb').1 hB
      · rcases (hbs b hb).2 with h | ⟨c, hc, hc', hb'⟩
        · exact .inl h
        · exact .inr ⟨c, .inr hc, hc', hb'⟩
    · rw [hgone j h (hj.resolve_left h)] at ho'
      cases ho'
  · rcases hi with rfl | hi <;> rcases hj with rfl | hj
    · exact hij rfl
    · by_cases h : j = i
      · exact hij h.symm
      · exact hsj (hgone j h hj)
    · by_cases h : i = j
      · exact hij h
      · exact hsi (hgone i h hi)
    · by_cases h : i = id
      · by_cases h' : j = id
        · exact hij (h.trans h'.symm)
        · exact hsj (hgone j h' hj)
      · exact hsi (hgone i h hi)
  · rcases hj with rfl | hj
    · exact absurd hidn hn
    · by_cases h : j = id
      · subst h; exact absurd hidn hn
      · rw [hgone j h hj] at hs; cases hs
  · rcases hi with rfl | hi
    · rw [hids] at hs'; cases hs'
    · by_cases h : i = id
      · subst h; rw [hids] at hs'; cases hs'
      · rw [hgone i h hi] at hs; cases hs
  · rw [setH_other _ _ hi.2]
    exact Rl.new i hi.1

theorem Fr.alloc (w : World) (o : Obj) : Fr w (w.alloc o) (fun _ => True) :=
  ⟨rfl, rfl, rfl, Nat.le_refl _, by simp, fun b hb _ => by show (w.heap.push o)[b]? = _; rw [Array.getElem?_push, if_neg (by omega)]⟩
theorem Fr.drew (w : World) : Fr w w.drew (fun _ => True) := ⟨rfl, rfl, rfl, Nat.le_succ _, Nat.le_refl _, fun _ _ _ => rfl⟩
theorem heap_new (w : World) (o : Obj) : (w.alloc o).heap[w.heap.size]? = some o := by
  show (w.heap.push o)[w.heap.size]? = _
  simp

theorem Rel.fresh (Rl : Rel P B new s tmps w φ β) {id : Id} (hid : new id) {o : PObj} {hdr : Value} {ob : Obj} {w0 : World} (hw0 : w0.heap = w.heap ∧ w0.os = w.os ∧ w0.tape = w.tape ∧ w0.output = w.output ∧ w.drawn ≤ w0.drawn)
    (hobj : Nx s.sto φ w B (s.sto.puts [(id, some o)]) (setH φ id (some hdr)) (w0.alloc ob) B → ObR P (s.sto.puts [(id, some o)]) (setH φ id (some hdr)) (w0.alloc ob) B hdr [w.heap.size] o) :
    (Nx s.sto φ w B (s.sto.puts [(id, some o)]) (setH φ id (some hdr)) (w0.alloc ob) B ∧ Gr s.sto w B β (s.sto.puts [(id, some o)]) (w0.alloc ob) B (setH β id [w.heap.size])) ∧
      Rel P B (fun i => new i ∧ i ≠ id) ⟨s.env, s.sto.puts [(id, some o)]⟩ tmps (w0.alloc ob) (setH φ id (some hdr)) (setH β id [w.heap.size]) := by
  obtain ⟨h1, h2, h3, h4, h5⟩ := hw0
  have hf : Fr w (w0.alloc ob) (fun _ => True) :=
    ⟨h2, h3, h4, h5, by simp [h1], fun b hb _ => by show (w0.heap.push ob)[b]? = _; rw [Array.getElem?_push, h1, if_neg (by omega)]⟩
  refine Rel.make (gone := []) (K := fun _ => True) Rl hid ?_ (fun _ _ h => absurd h (by simp)) (fun j hj _ => ?_) hf (fun _ _ => trivial) (fun _ _ => trivial) (fun _ _ _ _ _ => trivial) (by simp) (fun b hb => ?_) hobj
  · simp [Sto.puts, Sto.put, beq_self]
  · simp [Sto.puts, Sto.put, beq_ne hj]
  · simp at hb
    subst hb
    exact ⟨by simp [h1], .inl (Nat.le_refl _)⟩

theorem eff_box {id : Id} (Rl : Rel P B new s tmps w φ β) (hid : new id) {τ : TypeId} {x : V} {vx : Value} {K : Kont R} (hx : VR P s.sto φ w B x vx) (h : boxF (some id) x.cells K = some r) :
    Eff P B (fun i => new i ∧ i ≠ id) s tmps w φ β (Instr.box τ vx) K r := by
  unfold boxF at h
  split at h
  · rename_i id' cs e1 hcs
    injection e1 with e1
    subst e1
    have hc := cells_rel hx hcs
    obtain ⟨n, R'⟩ := Rel.fresh (o := .box cs) (hdr := .pointer (some ⟨w.heap.size, 0, none⟩)) (ob := .cells vx.cells τ) Rl hid (w0 := w) ⟨rfl, rfl, rfl, rfl, Nat.le_refl _⟩ (fun n => ⟨w.heap.size, vx.cells, τ, rfl, heap_new w _, rfl, hc.next n⟩)
    exact ⟨_, _, _, _, _, _, _, h, by simp [Instr.box, newVar, newRow], ⟨w.heap.size, setH_same _ _ _, rfl⟩, n, R'⟩
  · cases h


theorem zero_cs {σ : Sto} : ∀ {t : Ty} {vs : List Value}, zeroOk t vs = true → CsR P σ φ w B (zeroCs t) vs ∧ vs.length = t.n := by
  intro t
  induction t with
  | pair a b iha ihb =>
    intro vs h
    simp only [zeroOk] at h
    obtain ⟨h1, h2⟩ := both_true.1 h
    obtain ⟨h3, h4⟩ := iha h1
    obtain ⟨h5, h6⟩ := ihb h2
    have := h3.append h5
    rw [List.take_append_drop] at this
    refine ⟨this, ?_⟩
    simp only [List.length_take, List.length_drop] at h4 h6
    simp only [Ty.n]
    omega
  | int k =>
    intro vs h
    simp only [zeroOk, zeroInt] at h
    split at h <;> first | (cases h; done) | skip
    have := kb_eq h
    subst this
    exact ⟨CsR.single ⟨_, rfl, rfl⟩ rfl, rfl⟩
  | bool =>
    intro vs h
    simp only [zeroOk, zeroInt, zeroBool, zeroStr, zeroNone, zeroSl, zeroPtr, zeroMap, zeroFn] at h
    split at h <;> first | (cases h; done) | skip
    exact ⟨CsR.single ⟨_, rfl, rfl⟩ rfl, rfl⟩
  | str =>
    intro vs h
    simp only [zeroOk, zeroInt, zeroBool, zeroStr, zeroNone, zeroSl, zeroPtr, zeroMap, zeroFn] at h
    split at h <;> first | (cases h; done) | skip
    rename_i s
    have : s = ByteArray.empty := by
      have h0 := beq_eq h
      obtain ⟨⟨l⟩⟩ := s
      have : l = [] := List.eq_nil_of_length_eq_zero h0
      subst this
      rfl
    subst this
    exact ⟨CsR.single ⟨_, rfl, rfl⟩ rfl, rfl⟩
  | unit =>
    intro vs h
    simp only [zeroOk, zeroInt, zeroBool, zeroStr, zeroNone, zeroSl, zeroPtr, zeroMap, zeroFn] at h
    split at h <;> first | (cases h; done) | skip
    exact ⟨CsR.nil, rfl⟩
  | list e u _ =>
    intro vs h
    simp only [zeroOk, zeroInt, zeroBool, zeroStr, zeroNone, zeroSl, zeroPtr, zeroMap, zeroFn] at h
    split at h <;> first | (cases h; done) | skip
    exact ⟨CsR.single rfl rfl, rfl⟩
  | ptr u _ =>
    intro vs h
    simp only [zeroOk, zeroInt, zeroBool, zeroStr, zeroNone, zeroSl, zeroPtr, zeroMap, zeroFn] at h
    split at h <;> first | (cases h; done) | skip
    exact ⟨CsR.single trivial rfl, rfl⟩
  | fn1 a b _ _ =>
    intro vs h
    simp only [zeroOk, zeroInt, zeroBool, zeroStr, zeroNone, zeroSl, zeroPtr, zeroMap, zeroFn] at h
    split at h <;> first | (cases h; done) | skip
    exact ⟨CsR.single trivial rfl, rfl⟩
  | fn2 a b c _ _ _ =>
    intro vs h
    simp only [zeroOk, zeroInt, zeroBool, zeroStr, zeroNone, zeroSl, zeroPtr, zeroMap, zeroFn] at h
    split at h <;> first | (cases h; done) | skip
    exact ⟨CsR.single trivial rfl, rfl⟩
  | rows e u _ =>
    intro vs h
    simp only [zeroOk, zeroInt, zeroBool, zeroStr, zeroNone, zeroSl, zeroPtr, zeroMap, zeroFn] at h
    split at h <;> first | (cases h; done) | skip
    exact ⟨CsR.single trivial rfl, rfl⟩
  | rol e u _ =>
    intro vs h
    simp only [zeroOk, zeroInt, zeroBool, zeroStr, zeroNone, zeroSl, zeroPtr, zeroMap, zeroFn] at h
    split at h <;> first | (cases h; done) | skip
    exact ⟨CsR.single trivial rfl, rfl⟩
  | mptr u _ =>
    intro vs h
    simp only [zeroOk, zeroInt, zeroBool, zeroStr, zeroNone, zeroSl, zeroPtr, zeroMap, zeroFn] at h
    split at h <;> first | (cases h; done) | skip
    exact ⟨CsR.single trivial rfl, rfl⟩
  | kclo f u _ =>
    intro vs h
    simp only [zeroOk, zeroInt, zeroBool, zeroStr, zeroNone, zeroSl, zeroPtr, zeroMap, zeroFn] at h
    split at h <;> first | (cases h; done) | skip
    exact ⟨CsR.single trivial rfl, rfl⟩
  | sptr f k =>
    intro vs h
    simp only [zeroOk, zeroInt, zeroBool, zeroStr, zeroNone, zeroSl, zeroPtr, zeroMap, zeroFn] at h
    split at h <;> first | (cases h; done) | skip
    exact ⟨CsR.single trivial rfl, rfl⟩

theorem zero_rd : ∀ {t : Ty} {vs : List Value}, t.flat = true ∨ t.isList = true → zeroOk t vs = true → Rd P t w B vs t.dflt := by
  intro t
  induction t with
  | pair a b iha ihb =>
    intro vs hf h
    have hf' : a.flat = true ∧ b.flat = true := by
      rcases hf with h | h
      · exact both_true.1 h
      · cases h
    simp only [zeroOk] at h
    obtain ⟨h1, h2⟩ := both_true.1 h
    have := (iha (.inl hf'.1) h1).shut (ihb (.inl hf'.2) h2)
    rw [List.take_append_drop] at this
    exact this
  | int k =>
    intro vs hf h
    simp only [zeroOk, zeroInt] at h
    split at h <;> first | (cases h; done) | skip
    have := kb_eq h
    subst this
    rfl
  | bool =>
    intro vs hf h
    simp only [zeroOk, zeroInt, zeroBool, zeroStr, zeroNone, zeroSl, zeroPtr, zeroMap, zeroFn] at h
    split at h <;> first | (cases h; done) | skip
    rfl
  | str =>
    intro vs hf h
    simp only [zeroOk, zeroInt, zeroBool, zeroStr, zeroNone, zeroSl, zeroPtr, zeroMap, zeroFn] at h
    split at h <;> first | (cases h; done) | skip
    rename_i s
    have : s = ByteArray.empty := by
      have h0 := beq_eq h
      obtain ⟨⟨l⟩⟩ := s
      have : l = [] := List.eq_nil_of_length_eq_zero h0
      subst this
      rfl
    subst this
    rfl
  | unit =>
    intro vs hf h
    simp only [zeroOk, zeroInt, zeroBool, zeroStr, zeroNone, zeroSl, zeroPtr, zeroMap, zeroFn] at h
    split at h <;> first | (cases h; done) | skip
    rfl
  | list e u _ =>
    intro vs hf h
    simp only [zeroOk, zeroInt, zeroBool, zeroStr, zeroNone, zeroSl, zeroPtr, zeroMap, zeroFn] at h
    split at h <;> first | (cases h; done) | skip
    exact ⟨none, 0, rfl, Nat.le_refl _, fun h => absurd h (by simp [Ty.dflt])⟩
  | _ => intro vs hf h; simp [Ty.flat, Ty.isList] at hf

theorem eff_alloc (hΓ : TabOk P Γ) {id : Id} (Rl : Rel P B new s tmps w φ β) (hid : new id) {τ : TypeId} {K : Kont R} (h : boxF (some id) ((Γ τ).map fun d => zeroCs d.ty) K = some r) :
    Eff P B (fun i => new i ∧ i ≠ id) s tmps w φ β (Instr.alloc τ true (.tuple #[])) K r := by
  unfold boxF at h
  split at h
  · rename_i id' cs e1 hcs
    injection e1 with e1
    subst e1
    obtain ⟨d, hd, rfl⟩ := Option.map_eq_some_iff.1 hcs
    obtain ⟨i, z, u, I⟩ := hΓ _ _ hd
    have hc := (zero_cs (P := P) (w := w) (B := B) (φ := φ) (σ := s.sto) I.zeroOk).1
    obtain ⟨n, R'⟩ := Rel.fresh (o := .box (zeroCs d.ty)) (hdr := .pointer (some ⟨w.heap.size, 0, none⟩)) (ob := .cells z.cells τ) Rl hid (w0 := w) ⟨rfl, rfl, rfl, rfl, Nat.le_refl _⟩
      (fun n => ⟨w.heap.size, z.cells, τ, rfl, heap_new w _, rfl, hc.next n⟩)
    exact ⟨_, _, _, _, _, _, _, h, by simp [Instr.alloc, zeroValue, run_info I.info, I.zero, newVar, newRow], ⟨w.heap.size, setH_same _ _ _, rfl⟩, n, R'⟩
  · cases h

theorem made_cell (z : Array Value) (n i j : Nat) (hz : 0 < z.size) (hj : j < z.size) (h : i * z.size + j < n) :
    (madeCells z n)[i * z.size + j]? = z[j]? := by
  have e : (i * z.size + j) % z.size = j := by
    rw [Nat.add_comm, Nat.add_mul_mod_self_right, Nat.mod_eq_of_lt hj]
  simp [madeCells, h, e, hj]

theorem made_size (z : Array Value) (n : Nat) : (madeCells z n).size = n := by simp [madeCells]

theorem tRep_len {α : Type} (n : Int) (v : α) : (tRep n v).length = n.toNat := by simp [tRep]

theorem made_own {t : Ty} {z : Value} {n c : Nat} {e : TypeId} {g : Nat} (hz : zeroOk t z.cells.toList = true) (hf : t.flat = true ∨ t.isList = true) (hnc : n ≤ c)
    (hg : w.heap[g]? = some (.cells (madeCells z.cells (c * t.n)) e (0, 0))) : Ow P w B (.slice (some ⟨g, 0, none⟩) n c) t (cond t.isList .deep .own) (List.replicate n t.dflt) none [g] := by
  have hzs : z.cells.size = t.n := by
    have := (zero_cs (P := P) (w := w) (B := B) (φ := fun _ => none) (σ := fun _ => none) hz).2
    simpa using this
  have hat : ∀ i, i < n → ∀ j (h : j < z.cells.toList.length), (madeCells z.cells (c * t.n))[i * t.n + j]? = some z.cells.toList[j] := by
    intro i hi j hj
    have hj' : j < z.cells.size := by simpa using hj
    have hlt : i * z.cells.size + j < c * t.n := by
      have : (i + 1) * t.n ≤ c * t.n := Nat.mul_le_mul_right _ (by omega)
      rw [Nat.add_mul, Nat.one_mul] at this
      rw [hzs] at hj' ⊢
      omega
    have := made_cell z.cells (c * t.n) i j (by omega) hj' hlt
    rw [hzs] at this
    rw [this]
    simp [hj']
  cases hl : t.isList with
  | false =>
    have hf' : t.flat = true := by
      rcases hf with h | h
      · exact h
      · rw [hl] at h; cases h
    refine .inr ⟨g, 0, c, _, e, by simp, hg, by simp; exact hnc, by simp [made_size], rfl, fun i hi => ?_⟩
    have hi' : i < n := by simpa using hi
    refine ⟨z.cells.toList, by simpa using hzs, fun j hj => ?_, ?_⟩
    · rw [Nat.zero_add]
      exact hat i hi' j hj
    · rw [List.getElem_replicate]
      exact zero_rd (.inl hf') hz
  | true =>
    cases t <;> simp only [Ty.isList] at hl <;> first | (cases hl; done) | skip
    rename_i a b
    have hz' : z.cells.toList = [.slice none 0 0] := by
      simp only [zeroOk] at hz
      unfold zeroSl at hz
      split at hz
      · assumption
      · cases hz
    refine .inr ⟨g, 0, c, _, e, List.replicate n [], by simp, hg, by simp; exact hnc, by simp [made_size, Ty.n], by simp, by simp, fun i hi => ?_⟩
    have hi' : i < n := by simpa using hi
    refine ⟨.slice none 0 0, ?_, rfl, .inr ⟨[], by simp [hi'], .inl ⟨rfl, by simp [Ty.dflt], rfl⟩⟩⟩
    have := hat i hi' 0 (by rw [hz']; simp)
    simp only [hz'] at this
    simpa [Ty.n] using this

theorem eff_make (hΓ : TabOk P Γ) {id : Id} (Rl : Rel P B new s tmps w φ β) (hid : new id) {τ : TypeId} {l c : V} {vl vc : Value} {K : Kont R} (hl : VR P s.sto φ w B l vl) (hc : VR P s.sto φ w B c vc)
    (h : makeF Γ (some id) τ l c K = some r) : Eff P B (fun i => new i ∧ i ≠ id) s tmps w φ β (Instr.makeSlice τ vl vc) K r := by
  unfold makeF at h
  split at h
  · rename_i id' e t fs el k n k' m e1 hd
    injection e1 with e1
    subst e1
    obtain ⟨hf, h⟩ := cond_some h
    obtain ⟨hb, h⟩ := chk_some h
    simp only [Bool.and_eq_true] at hb
    have h0 : @LE.le Int _ 0 n := by simpa [ile] using hb.1.1
    have h1 : @LE.le Int _ n m := by simpa [ile] using hb.1.2
    have h2 : m.toNat ≤ 1099511627776 := ble_le hb.2
    obtain ⟨i, z, u, I⟩ := hΓ _ _ hd
    obtain ⟨hu, _, d', hd', ht⟩ := I.list e t rfl
    obtain ⟨i', z', u', I'⟩ := hΓ _ _ hd'
    have hvl := vr_int hl
    have hvc := vr_int hc
    subst hvl
    subst hvc
    have hz : zeroOk t z'.cells.toList = true := by rw [← ht]; exact I'.zeroOk
    have hrun := run_make (P := P) w τ e i' z' (by rw [I.under, hu]) I'.info I'.zero k k' n m h0 h1 (by
      have h3 := I'.bytes (by rw [ht]; exact I.small _ _ rfl)
      have h4 : i'.bytes * Int.toNat m ≤ 128 * 1099511627776 := Nat.mul_le_mul h3 h2
      have h5 : @HMul.hMul Int Int Int _ (i'.bytes : Int) m = ((i'.bytes * Int.toNat m : Nat) : Int) := by
        rw [Int.natCast_mul, Int.toNat_of_nonneg (Int.le_trans h0 h1)]
      rw [h5]
      omega) (by omega)
    have hfl : t.flat = true ∨ t.isList = true := by
      cases h : t.flat with
      | true => exact .inl rfl
      | false => rw [h] at hf; exact .inr hf
    rw [I'.size, ht] at hrun
    obtain ⟨n', R'⟩ := Rel.fresh (o := .sl e t (cond t.isList .deep .own) (tRep n t.dflt) 0 none) (hdr := .slice (some ⟨w.heap.size, 0, none⟩) n.toNat m.toNat)
      (ob := .cells (madeCells z'.cells (m.toNat * t.n)) e) Rl hid (w0 := w) ⟨rfl, rfl, rfl, rfl, Nat.le_refl _⟩
      (fun n' => made_own hz hfl (by omega) (heap_new w _))
    exact ⟨_, _, _, _, _, _, _, h, hrun, ⟨setH_same _ _ _, _, _, _, rfl⟩, n', R'⟩
  · cases h

end
end Go.PV
