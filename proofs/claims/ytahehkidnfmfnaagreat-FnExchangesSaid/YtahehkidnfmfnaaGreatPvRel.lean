/- How pure values stand to the machine's values and memory. -/
import Derived.Test.YtahehkidnfmfnaaGreatPvEval
import Derived.Laws.CopyRow
import Derived.Laws.Append
import Derived.Laws.World
import Derived.Laws.Sem
import Derived.Laws.Cells
import Derived.Maps.Own
import Derived.Maps.Views
set_option linter.all false
namespace Go.PV
open Go

structure Fr (w w' : World) (keep : Nat → Prop) : Prop where
  os : w'.os = w.os
  tape : w'.tape = w.tape
  output : w'.output = w.output
  drawn : w.drawn ≤ w'.drawn
  size : w.heap.size ≤ w'.heap.size
  block : ∀ b, b < w.heap.size → keep b → w'.heap[b]? = w.heap[b]?

theorem Fr.refl (w : World) (k : Nat → Prop) : Fr w w k := ⟨rfl, rfl, rfl, Nat.le_refl _, Nat.le_refl _, fun _ _ _ => rfl⟩
theorem Fr.trans {a b c : World} {k : Nat → Prop} (h : Fr a b k) (h' : Fr b c k) : Fr a c k :=
  ⟨h'.os.trans h.os, h'.tape.trans h.tape, h'.output.trans h.output, Nat.le_trans h.drawn h'.drawn, Nat.le_trans h.size h'.size,
    fun i hi hk => (h'.block i (Nat.lt_of_lt_of_le hi h.size) hk).trans (h.block i hi hk)⟩
theorem Fr.mono {w w' : World} {k k' : Nat → Prop} (h : Fr w w' k) (hk : ∀ b, k' b → k b) : Fr w w' k' :=
  ⟨h.os, h.tape, h.output, h.drawn, h.size, fun b hb hk' => h.block b hb (hk b hk')⟩
theorem Fr.cell {w w' : World} {k : Nat → Prop} (h : Fr w w' k) {g o : Nat} {v : Value} (hc : w.cell? ⟨g, o, none⟩ = some v) (hk : k g) : w'.cell? ⟨g, o, none⟩ = some v := by
  have hb := World.block_lt_of_cell? w _ hc
  have := h.block g hb hk
  unfold World.cell? at hc ⊢
  simp only [this]
  exact hc

def Cells (w : World) (g o : Nat) (us : List Value) : Prop := ∀ j (h : j < us.length), w.cell? ⟨g, o + j, none⟩ = some us[j]
theorem Cells.fr {w w' : World} {k : Nat → Prop} {g o : Nat} {us : List Value} (h : Cells w g o us) (hf : Fr w w' k) (hk : k g) : Cells w' g o us :=
  fun j hj => hf.cell (h j hj) hk

def Ty.mk (t : Ty) (vs : List Value) : Value := cond t.agg (.agg vs.toArray) (vs.headD undef)

def Ent (P : Program) (f : FuncId) : Prop := ∀ (args : Array Value) (w : World), (callFunc f args).run P w = .ok (.enter f args) w

def Rd (P : Program) : (t : Ty) → World → (Nat → Prop) → List Value → t.T → Prop
  | .int k, _, _, vs, x => vs = [.int k x]
  | .bool, _, _, vs, x => vs = [.bool x]
  | .str, _, _, vs, x => vs = [.string x]
  | .unit, _, _, vs, _ => vs = []
  | .pair a b, w, B, vs, x => ∃ u v, vs = u ++ v ∧ Rd P a w B u x.1 ∧ Rd P b w B v x.2
  | .list _ t, w, B, vs, xs => ∃ A c, vs = [.slice A (xs : List t.T).length c] ∧ (xs : List t.T).length ≤ c ∧
      (0 < (xs : List t.T).length → ∃ g o, A = some ⟨g, o, none⟩ ∧ B g ∧
        ∀ i (h : i < (xs : List t.T).length), ∃ us, us.length = t.n ∧ Cells w g (o + i * t.n) us ∧ Rd P t w B us ((xs : List t.T)[i]))
  | .ptr t, w, B, vs, x => ∃ g us, vs = [.pointer (some ⟨g, 0, none⟩)] ∧ B g ∧ us.length = t.n ∧ Cells w g 0 us ∧ Rd P t w B us x
  | .fn1 a r, w, B, vs, f => ∃ fid fst caps, vs = [.func (.func fid) fst caps] ∧ Ent P fid ∧
      ∀ w' B' us x y, Fr w w' B → (∀ b, B' b → b < w'.heap.size) → Rd P a w' B' us x → f x = some y →
        Calls P fid (fst ++ #[a.mk us] ++ caps) w' fun e w'' => ∃ us', e = .returned (r.mk us') ∧ Rd P r w'' (fun _ => False) us' y ∧ Fr w' w'' (fun _ => True)
  | .fn2 a b r, w, B, vs, f => ∃ fid fst caps, vs = [.func (.func fid) fst caps] ∧ Ent P fid ∧
      ∀ w' B' us us2 x x2 y, Fr w w' B → (∀ b, B' b → b < w'.heap.size) → Rd P a w' B' us x → Rd P b w' B' us2 x2 → f x x2 = some y →
        Calls P fid (fst ++ #[a.mk us, b.mk us2] ++ caps) w' fun e w'' => ∃ us', e = .returned (r.mk us') ∧ Rd P r w'' (fun _ => False) us' y ∧ Fr w' w'' (fun _ => True)
  | .rows _ _, _, _, _, _ => False
  | .mptr _, _, _, _, _ => False
  | .kclo f t, w, B, vs, x => ∃ us : List Value, vs = [.func (.func f) #[] us.toArray] ∧ Rd P t w B us x
  | .sptr f k, w, B, vs, x => ∃ g caps, vs = [.pointer (some ⟨g, 0, none⟩)] ∧ B g ∧ w.cell? ⟨g, 0, none⟩ = some (.func (.func f) #[] caps)
  | .rol _ _, _, _, _, _ => False

theorem Rd.len {P : Program} : ∀ {t : Ty} {w : World} {B : Nat → Prop} {vs : List Value} {x : t.T}, Rd P t w B vs x → vs.length = t.n := by
  intro t
  induction t with
  | pair a b iha ihb =>
    intro w B vs x h
    obtain ⟨u, v, rfl, h1, h2⟩ := h
    simp [Ty.n, iha h1, ihb h2]
  | list e t ih => intro w B vs x h; obtain ⟨A, c, rfl, _⟩ := h; rfl
  | ptr t ih => intro w B vs x h; obtain ⟨g, us, rfl, _⟩ := h; rfl
  | fn1 a r _ _ => intro w B vs x h; obtain ⟨f, fst, caps, rfl, _⟩ := h; rfl
  | fn2 a b r _ _ _ => intro w B vs x h; obtain ⟨f, fst, caps, rfl, _⟩ := h; rfl
  | rows e t _ => intro w B vs x h; exact h.elim
  | mptr t _ => intro w B vs x h; exact h.elim
  | kclo f t _ => intro w B vs x h; obtain ⟨us, rfl, _⟩ := h; rfl
  | sptr f k => intro w B vs x h; obtain ⟨g, caps, rfl, _⟩ := h; rfl
  | rol e t _ => intro w B vs x h; exact h.elim
  | _ => intro w B vs x h; cases h; rfl

theorem Rd.one {P : Program} : ∀ {t : Ty} {w : World} {B : Nat → Prop} {vs : List Value} {x : t.T}, Rd P t w B vs x → ∀ u ∈ vs, u.oneCell' = true := by
  intro t
  induction t with
  | pair a b iha ihb =>
    intro w B vs x h u hu
    obtain ⟨u1, v, rfl, h1, h2⟩ := h
    rcases List.mem_append.1 hu with h | h
    · exact iha h1 u h
    · exact ihb h2 u h
  | list e t ih => intro w B vs x h u hu; obtain ⟨A, c, rfl, _⟩ := h; simp at hu; subst hu; rfl
  | ptr t ih => intro w B vs x h u hu; obtain ⟨g, us, rfl, _⟩ := h; simp at hu; subst hu; rfl
  | fn1 a r _ _ => intro w B vs x h u hu; obtain ⟨f, fst, caps, rfl, _⟩ := h; simp at hu; subst hu; rfl
  | fn2 a b r _ _ _ => intro w B vs x h u hu; obtain ⟨f, fst, caps, rfl, _⟩ := h; simp at hu; subst hu; rfl
  | unit => intro w B vs x h u hu; cases h; simp at hu
  | rows e t _ => intro w B vs x h; exact h.elim
  | mptr t _ => intro w B vs x h; exact h.elim
  | kclo f t _ => intro w B vs x h u hu; obtain ⟨us, rfl, _⟩ := h; simp at hu; subst hu; rfl
  | sptr f k => intro w B vs x h u hu; obtain ⟨g, caps, rfl, _⟩ := h; simp at hu; subst hu; rfl
  | rol e t _ => intro w B vs x h; exact h.elim
  | _ => intro w B vs x h u hu; cases h; simp at hu; subst hu; rfl

theorem Rd.mono {P : Program} : ∀ {t : Ty} {w : World} {B B' : Nat → Prop} {vs : List Value} {x : t.T}, Rd P t w B vs x → (∀ b, B b → B' b) → Rd P t w B' vs x := by
  intro t
  induction t with
  | pair a b iha ihb =>
    intro w B B' vs x h hB
    obtain ⟨u, v, rfl, h1, h2⟩ := h
    exact ⟨u, v, rfl, iha h1 hB, ihb h2 hB⟩
  | list e t ih =>
    intro w B B' vs x h hB
    obtain ⟨A, c, rfl, hc, hr⟩ := h
    refine ⟨A, c, rfl, hc, fun h0 => ?_⟩
    obtain ⟨g, o, hA, hg, hi⟩ := hr h0
    refine ⟨g, o, hA, hB g hg, fun i h => ?_⟩
    obtain ⟨us, h1, h2, h3⟩ := hi i h
    exact ⟨us, h1, h2, ih h3 hB⟩
  | ptr t ih =>
    intro w B B' vs x h hB
    obtain ⟨g, us, rfl, hg, h1, h2, h3⟩ := h
    exact ⟨g, us, rfl, hB g hg, h1, h2, ih h3 hB⟩
  | fn1 a r _ _ =>
    intro w B B' vs x h hB
    obtain ⟨f, fst, caps, rfl, he, hc⟩ := h
    exact ⟨f, fst, caps, rfl, he, fun w' B'' us y z hf => hc w' B'' us y z (hf.mono hB)⟩
  | fn2 a b r _ _ _ =>
    intro w B B' vs x h hB
    obtain ⟨f, fst, caps, rfl, he, hc⟩ := h
    exact ⟨f, fst, caps, rfl, he, fun w' B'' us us2 y y2 z hf => hc w' B'' us us2 y y2 z (hf.mono hB)⟩
  | rows e t _ => intro w B B' vs x h; exact h.elim
  | mptr t _ => intro w B B' vs x h; exact h.elim
  | kclo f t ih => intro w B B' vs x h hB; obtain ⟨us, h1, h2⟩ := h; exact ⟨us, h1, ih h2 hB⟩
  | sptr f k => intro w B B' vs x h hB; obtain ⟨g, caps, h1, h2, h3⟩ := h; exact ⟨g, caps, h1, hB g h2, h3⟩
  | rol e t _ => intro w B B' vs x h; exact h.elim
  | _ => intro w B B' vs x h hB; exact h

theorem Rd.fr {P : Program} : ∀ {t : Ty} {w w' : World} {B : Nat → Prop} {vs : List Value} {x : t.T}, Rd P t w B vs x → Fr w w' B → Rd P t w' B vs x := by
  intro t
  induction t with
  | pair a b iha ihb =>
    intro w w' B vs x h hB
    obtain ⟨u, v, rfl, h1, h2⟩ := h
    exact ⟨u, v, rfl, iha h1 hB, ihb h2 hB⟩
  | list e t ih =>
    intro w w' B vs x h hB
    obtain ⟨A, c, rfl, hc, hr⟩ := h
    refine ⟨A, c, rfl, hc, fun h0 => ?_⟩
    obtain ⟨g, o, hA, hg, hi⟩ := hr h0
    refine ⟨g, o, hA, hg, fun i h => ?_⟩
    obtain ⟨us, h1, h2, h3⟩ := hi i h
    exact ⟨us, h1, h2.fr hB hg, ih h3 hB⟩
  | ptr t ih =>
    intro w w' B vs x h hB
    obtain ⟨g, us, rfl, hg, h1, h2, h3⟩ := h
    exact ⟨g, us, rfl, hg, h1, h2.fr hB hg, ih h3 hB⟩
  | fn1 a r _ _ =>
    intro w w' B vs x h hB
    obtain ⟨f, fst, caps, rfl, he, hc⟩ := h
    exact ⟨f, fst, caps, rfl, he, fun w1 B'' us y z hf => hc w1 B'' us y z (hB.trans hf)⟩
  | fn2 a b r _ _ _ =>
    intro w w' B vs x h hB
    obtain ⟨f, fst, caps, rfl, he, hc⟩ := h
    exact ⟨f, fst, caps, rfl, he, fun w1 B'' us us2 y y2 z hf => hc w1 B'' us us2 y y2 z (hB.trans hf)⟩
  | rows e t _ => intro w w' B vs x h; exact h.elim
  | mptr t _ => intro w w' B vs x h; exact h.elim
  | kclo f t ih => intro w w' B vs x h hB; obtain ⟨us, h1, h2⟩ := h; exact ⟨us, h1, ih h2 hB⟩
  | sptr f k => intro w w' B vs x h hB; obtain ⟨g, caps, h1, h2, h3⟩ := h; exact ⟨g, caps, h1, h2, hB.cell h3 h2⟩
  | rol e t _ => intro w w' B vs x h; exact h.elim
  | _ => intro w w' B vs x h hB; exact h

theorem Rd.flat {P : Program} : ∀ {t : Ty} {w w' : World} {B B' : Nat → Prop} {vs : List Value} {x : t.T}, t.flat = true → Rd P t w B vs x → Rd P t w' B' vs x := by
  intro t
  induction t with
  | pair a b iha ihb =>
    intro w w' B B' vs x hf h
    obtain ⟨u, v, rfl, h1, h2⟩ := h
    simp only [Ty.flat, both_true] at hf
    exact ⟨u, v, rfl, iha hf.1 h1, ihb hf.2 h2⟩
  | list e t ih => intro w w' B B' vs x hf; exact absurd hf (by simp [Ty.flat])
  | ptr t ih => intro w w' B B' vs x hf; exact absurd hf (by simp [Ty.flat])
  | fn1 a r _ _ => intro w w' B B' vs x hf; exact absurd hf (by simp [Ty.flat])
  | fn2 a b r _ _ _ => intro w w' B B' vs x hf; exact absurd hf (by simp [Ty.flat])
  | rows e t _ => intro w w' B B' vs x hf; exact absurd hf (by simp [Ty.flat])
  | mptr t _ => intro w w' B B' vs x hf; exact absurd hf (by simp [Ty.flat])
  | kclo f t _ => intro w w' B B' vs x hf; exact absurd hf (by simp [Ty.flat])
  | sptr f k => intro w w' B B' vs x hf; exact absurd hf (by simp [Ty.flat])
  | rol e t _ => intro w w' B B' vs x hf; exact absurd hf (by simp [Ty.flat])
  | _ => intro w w' B B' vs x hf h; exact h

def OwL (P : Program) (t : Ty) (w : World) (B : Nat → Prop) (v : Value) (xs : List t.T) (bs : List Nat) : Prop :=
  (v = .slice none 0 0 ∧ xs = [] ∧ bs = []) ∨
  ∃ g o c cur e, v = .slice (some ⟨g, o, none⟩) xs.length c ∧ w.heap[g]? = some (.cells cur e (0, 0)) ∧ xs.length ≤ c ∧ o + c * t.n ≤ cur.size ∧ bs = [g] ∧
    ∀ i (h : i < xs.length), ∃ us, us.length = t.n ∧ (∀ j (h : j < us.length), cur[o + i * t.n + j]? = some us[j]) ∧ Rd P t w B us xs[i]

def OwD (P : Program) (t : Ty) (w : World) (B : Nat → Prop) (v : Value) (xs : List (List t.T)) (hole : Option Int) (bs : List Nat) : Prop :=
  (v = .slice none 0 0 ∧ xs = [] ∧ bs = []) ∨
  ∃ (g o c : Nat) (cur : Array Value) (e : TypeId) (bss : List (List Nat)), v = .slice (some ⟨g, o, none⟩) xs.length c ∧ w.heap[g]? = some (.cells cur e (0, 0)) ∧ xs.length ≤ c ∧
    o + c ≤ cur.size ∧ bs = g :: bss.flatten ∧ bss.length = xs.length ∧
    ∀ i (h : i < xs.length), ∃ u, cur[o + i]? = some u ∧ u.oneCell' = true ∧ (hole = some (i : Int) ∧ bss[i]? = some [] ∨ ∃ b, bss[i]? = some b ∧ OwL P t w B u xs[i] b)

def Ow (P : Program) (w : World) (B : Nat → Prop) (v : Value) : (t : Ty) → (m : Mo) → List t.T → Option Int → List Nat → Prop
  | t, .fro, xs, _, bs => Rd P (.list 0 t) w B [v] xs ∧ bs = []
  | t, .own, xs, _, bs => OwL P t w B v xs bs
  | .list _ t, .deep, xs, hole, bs => OwD P t w B v xs hole bs
  | _, .deep, _, _, _ => False

def OwT (P : Program) : (t : Ty) → World → (Nat → Prop) → List Value → t.T → List Nat → Prop
  | .pair a b, w, B, us, x, bs => ∃ u v b1 b2, us = u ++ v ∧ bs = b1 ++ b2 ∧ OwT P a w B u x.1 b1 ∧ OwT P b w B v x.2 b2
  | .list _ t, w, B, us, x, bs => ∃ v, us = [v] ∧ (∃ A n c, v = .slice A n c) ∧ Ow P w B v t (cond t.isList .deep .own) x none bs
  | .rows _ t, w, B, us, x, bs => ∃ v, us = [v] ∧ (∃ A n c, v = .slice A n c) ∧ OwL P t w B v x bs
  | .mptr t, w, B, us, x, bs => ∃ g cur e b, us = [.pointer (some ⟨g, 0, none⟩)] ∧ w.heap[g]? = some (.cells cur e (0, 0)) ∧ OwT P t w B cur.toList x b ∧ bs = g :: b
  | .kclo f t, w, B, us, x, bs => ∃ vs : List Value, us = [.func (.func f) #[] vs.toArray] ∧ OwT P t w B vs x bs
  | .int k, w, B, us, x, bs => Rd P (.int k) w B us x ∧ bs = []
  | .bool, w, B, us, x, bs => Rd P .bool w B us x ∧ bs = []
  | .str, w, B, us, x, bs => Rd P .str w B us x ∧ bs = []
  | .unit, w, B, us, x, bs => Rd P .unit w B us x ∧ bs = []
  | .ptr t, w, B, us, x, bs => Rd P (.ptr t) w B us x ∧ bs = []
  | .fn1 a r, w, B, us, x, bs => Rd P (.fn1 a r) w B us x ∧ bs = []
  | .fn2 a b r, w, B, us, x, bs => Rd P (.fn2 a b r) w B us x ∧ bs = []
  | .sptr f k, w, B, us, x, bs => Rd P (.sptr f k) w B us x ∧ bs = []
  | .rol e t, w, B, us, x, bs => Rd P (.list e t) w B us x ∧ bs = []

abbrev Hd := Id → Option Value
abbrev Bl := Id → List Nat

def SubA (A A' : Option Addr) (c l sz : Nat) : Prop := ∃ k, k ≤ l * sz ∧ (c ≠ l → k = l * sz) ∧ A' = A.map (·.add k)
theorem add_zero_map (A : Option Addr) : A.map (·.add 0) = A := by cases A <;> simp [Addr.add]
theorem SubA.cut (A : Option Addr) (c l sz : Nat) : SubA A (if c = l then A else A.map (·.add (l * sz))) c l sz := by
  by_cases h : c = l
  · rw [if_pos h]; exact ⟨0, Nat.zero_le _, fun h' => absurd h h', (add_zero_map A).symm⟩
  · rw [if_neg h]; exact ⟨l * sz, Nat.le_refl _, fun _ => rfl, rfl⟩
theorem SubA.part {A A' : Option Addr} {c l m sz : Nat} (h : SubA A A' c l sz) (hl : m ≤ c - l) (hlc : l ≤ c) : SubA A (if c - l = m then A' else A'.map (·.add (m * sz))) c (l + m) sz := by
  obtain ⟨k, h1, h2, rfl⟩ := h
  rw [SubA, Nat.add_mul]
  by_cases h : c - l = m
  · rw [if_pos h]; exact ⟨k, by omega, fun h' => by omega, rfl⟩
  · rw [if_neg h]
    by_cases h3 : c = l
    · omega
    · have := h2 h3
      subst this
      refine ⟨l * sz + m * sz, Nat.le_refl _, fun _ => rfl, ?_⟩
      cases A with
      | none => rfl
      | some a => simp only [Option.map_some, Addr.add]; congr 1; split <;> split <;> simp_all <;> omega
def CapR (P : Program) (φ : Hd) (w : World) (B : Nat → Prop) (self : Value) : Cap → Value → Prop
  | .id i, v => φ i = some v ∧ ∃ g, v = .pointer (some ⟨g, 0, none⟩)
  | .ro t x, v => Rd P (.ptr t) w B [v] x
  | .me, v => ∃ g, v = .pointer (some ⟨g, 0, none⟩) ∧ B g ∧ w.cell? ⟨g, 0, none⟩ = some self
  | .bad, _ => True
def CloR (P : Program) (φ : Hd) (w : World) (B : Nat → Prop) (f : FuncId) (caps : List Cap) (v : Value) : Prop :=
  ∃ vs : List Value, v = .func (.func f) #[] vs.toArray ∧ vs.length = caps.length ∧ (∀ u ∈ vs, u.oneCell' = true) ∧ ∀ (i : Nat) c u, caps[i]? = some c → vs[i]? = some u → CapR P φ w B v c u
def CR (P : Program) (σ : Sto) (φ : Hd) (w : World) (B : Nat → Prop) : C → Value → Prop
  | .dead, _ => True
  | .undef, v => v = undef
  | .nilsl, v => v = .slice none 0 0
  | .ro t x, v => ∃ us, v = t.mk us ∧ Rd P t w B us x
  | .ref id, v => φ id = some v ∧ ∃ A n c, v = .slice A n c
  | .sub id sz lo hi, v => ∃ A n c A', φ id = some (.slice A n c) ∧ 0 ≤ lo ∧ lo ≤ hi ∧ hi ≤ n ∧ n ≤ c ∧ (∀ e t m xs hv hole, σ id = some (.sl e t m xs hv hole) → sz = t.n) ∧
      SubA A A' c lo.toNat sz ∧ v = .slice A' (hi - lo).toNat (c - lo.toNat)
  | .el id i hv, v => v.oneCell' = true ∧ φ id ≠ none ∧ (∀ e t m xs hv' hole, σ id = some (.sl e t m xs hv' hole) → hv ≤ hv') ∧ ∀ e a b xs hole, σ id = some (.sl e (.list a b) .deep xs hv hole) →
      ∃ g o n c, φ id = some (.slice (some ⟨g, o, none⟩) n c) ∧ 0 ≤ i ∧ i < n ∧ w.cell? ⟨g, o + i.toNat, none⟩ = some v
  | .adr id off, v => ∃ g, φ id = some (.pointer (some ⟨g, 0, none⟩)) ∧ v = .pointer (some ⟨g, off, none⟩)
  | .ela id i sz off, v => ∃ g o n c, φ id = some (.slice (some ⟨g, o, none⟩) n c) ∧ 0 ≤ i ∧ i < n ∧ (∀ e t m xs hv hole, σ id = some (.sl e t m xs hv hole) → sz = t.n) ∧
      v = .pointer (some ⟨g, o + i.toNat * sz + off, none⟩)
  | .ele id j i hv, v => v.oneCell' = true ∧ φ id ≠ none ∧ (∀ e t m xs hv' hole, σ id = some (.sl e t m xs hv' hole) → hv ≤ hv') ∧ ∀ e a b xs hole, σ id = some (.sl e (.list a b) .deep xs hv hole) →
      ∃ g o n c g2 o2 n2 c2, φ id = some (.slice (some ⟨g, o, none⟩) n c) ∧ 0 ≤ j ∧ j < n ∧ w.cell? ⟨g, o + j.toNat, none⟩ = some (.slice (some ⟨g2, o2, none⟩) n2 c2) ∧
        0 ≤ i ∧ i < n2 ∧ v = .pointer (some ⟨g2, o2 + i.toNat, none⟩)
  | .roa t x, v => ∃ g o us, v = .pointer (some ⟨g, o, none⟩) ∧ B g ∧ us.length = t.n ∧ Cells w g o us ∧ Rd P t w B us x
  | .clo f caps, v => CloR P φ w B f caps v
  | .sadr f caps, v => ∃ g u, v = .pointer (some ⟨g, 0, none⟩) ∧ B g ∧ w.cell? ⟨g, 0, none⟩ = some u ∧ CloR P φ w B f caps u
  | .clo1 f t x, v => ∃ us, v = .func (.func f) #[t.mk us] #[] ∧ Rd P t w B us x
  | .mref id, v => φ id = some v ∧ ∃ g, v = .map (some g)
  | .mad id i, v => ∃ g, φ id = some (.pointer (some ⟨g, 0, none⟩)) ∧ 0 ≤ i ∧ v = .pointer (some ⟨g, i.toNat, none⟩)

def CsR (P : Program) (σ : Sto) (φ : Hd) (w : World) (B : Nat → Prop) (cs : List C) (us : List Value) : Prop :=
  us.length = cs.length ∧ (∀ u ∈ us, u.oneCell' = true) ∧ ∀ (i : Nat) (c : C) (v : Value), cs[i]? = some c → us[i]? = some v → CR P σ φ w B c v

def CompR (P : Program) (σ : Sto) (φ : Hd) (w : World) (B : Nat → Prop) (p : Bool × List C) (v : Value) : Prop :=
  ∃ us, CsR P σ φ w B p.2 us ∧ ((p.1 = true ∧ v = .agg us.toArray) ∨ (p.1 = false ∧ us = [v]))

def VR (P : Program) (σ : Sto) (φ : Hd) (w : World) (B : Nat → Prop) : V → Value → Prop
  | .one c, v => CR P σ φ w B c v
  | .agg cs, v => ∃ us : List Value, v = .agg us.toArray ∧ CsR P σ φ w B cs us
  | .tup l, v => ∃ vs : List Value, v = .tuple vs.toArray ∧ vs.length = l.length ∧ ∀ (i : Nat) (p : Bool × List C) (u : Value), l[i]? = some p → vs[i]? = some u → CompR P σ φ w B p u

def MpR (P : Program) (w : World) (v : Value) (bs : List Nat) (k e : TypeId) (κ : IntKind) (xs : List Int) : Prop :=
  ∃ (g n : Nat) (D : DataW Unit), v = .map (some g) ∧ w.ownsMap P k (plainElem P e) g n D ∧ n ≤ xs.length ∧ bs = [g] ∧ P.underlying k = some (.int κ) ∧ ∀ x, (Lit.int κ x).wf = true → D.atKey (.int κ x) (.lit (.bool false)) = .lit (.bool (hasI xs x))
theorem MpR.next {P : Program} {w w' : World} {v : Value} {bs : List Nat} {k e : TypeId} {κ : IntKind} {xs : List Int} (h : MpR P w v bs k e κ xs) (hb : ∀ b ∈ bs, w'.heap[b]? = w.heap[b]?) : MpR P w' v bs k e κ xs := by
  obtain ⟨g, n, D, h1, ⟨es, clock, h2, h3⟩, h4, h5, h6⟩ := h
  exact ⟨g, n, D, h1, ⟨es, clock, by rw [hb g (by simp [h5])]; exact h2, h3⟩, h4, h5, h6⟩
def MatR (w : World) (v : Value) (bs : List Nat) (xs : List Int) : Prop :=
  ∃ g cur e, v = .pointer (some ⟨g, 0, none⟩) ∧ w.heap[g]? = some (.cells cur e (0, 0)) ∧ bs = [g] ∧ cur.toList = xs.map (Value.int .i64)
theorem MatR.next {w w' : World} {v : Value} {bs : List Nat} {xs : List Int} (h : MatR w v bs xs) (hb : ∀ b ∈ bs, w'.heap[b]? = w.heap[b]?) : MatR w' v bs xs := by
  obtain ⟨g, cur, e, h1, h2, h3, h4⟩ := h
  exact ⟨g, cur, e, h1, by rw [hb g (by simp [h3])]; exact h2, h3, h4⟩
def ObR (P : Program) (σ : Sto) (φ : Hd) (w : World) (B : Nat → Prop) (v : Value) (bs : List Nat) : PObj → Prop
  | .sl e t m xs hv hole => Ow P w B v t m xs hole bs
  | .box cs => ∃ g cur e, v = .pointer (some ⟨g, 0, none⟩) ∧ w.heap[g]? = some (.cells cur e (0, 0)) ∧ bs = [g] ∧ CsR P σ φ w B cs cur.toList
  | .mbox t x => OwT P (.mptr t) w B [v] x bs
  | .mp k e κ xs => MpR P w v bs k e κ xs
  | .mat xs => MatR w v bs xs

structure Rel (P : Program) (B : Nat → Prop) (new : Id → Prop) (s : St) (tmps : Array Value) (w : World) (φ : Hd) (β : Bl) : Prop where
  env : ∀ t, VR P s.sto φ w B (s.env t) (tmps.getD t undef)
  obj : ∀ id o, s.sto id = some o → ∃ v, φ id = some v ∧ ObR P s.sto φ w B v (β id) o ∧ (β id).Nodup ∧ (∀ b ∈ β id, ¬ B b ∧ b < w.heap.size)
  sep : ∀ i j, i ≠ j → s.sto i ≠ none → s.sto j ≠ none → ∀ b ∈ β i, b ∉ β j
  low : ∀ b, B b → b < w.heap.size
  new : ∀ i, new i → φ i = none


structure Nx (σ : Sto) (φ : Hd) (w : World) (B : Nat → Prop) (σ' : Sto) (φ' : Hd) (w' : World) (B' : Nat → Prop) : Prop where
  phi : ∀ id v, φ id = some v → φ' id = some v
  sto : ∀ id, φ id ≠ none → ∀ e t m xs hv hole, σ' id = some (.sl e t m xs hv hole) → ∃ e' m' xs' hv' hole', σ id = some (.sl e' t m' xs' hv' hole') ∧ hv' ≤ hv ∧ (m = .deep → m' = .deep)
  keep : ∀ b, B b → B' b
  fr : Fr w w' B
  heads : ∀ id e a b xs hv hole e' xs' hole' g o n c, σ' id = some (.sl e (.list a b) .deep xs hv hole) → σ id = some (.sl e' (.list a b) .deep xs' hv hole') →
    φ id = some (.slice (some ⟨g, o, none⟩) n c) → ∀ k v, k < n → w.cell? ⟨g, o + k, none⟩ = some v → w'.cell? ⟨g, o + k, none⟩ = some v

structure Gr (σ : Sto) (w : World) (B : Nat → Prop) (β : Bl) (σ' : Sto) (w' : World) (B' : Nat → Prop) (β' : Bl) : Prop where
  kept : Fr w w' (fun b => ∀ j, σ j ≠ none → b ∉ β j)
  own : ∀ j b, σ' j ≠ none → b ∈ β' j → w.heap.size ≤ b ∨ ∃ k, σ k ≠ none ∧ b ∈ β k
  rd : ∀ b, B' b → B b ∨ w.heap.size ≤ b ∨ ∃ k, σ k ≠ none ∧ b ∈ β k
  mem : ∀ b, B b → B' b

theorem Gr.refl (σ : Sto) (w : World) (B : Nat → Prop) (β : Bl) : Gr σ w B β σ w B β := ⟨Fr.refl _ _, fun j b h h' => .inr ⟨j, h, h'⟩, fun b h => .inl h, fun _ h => h⟩
theorem Gr.trans {σ σ' σ'' : Sto} {w w' w'' : World} {B B' B'' : Nat → Prop} {β β' β'' : Bl} (h : Gr σ w B β σ' w' B' β') (h' : Gr σ' w' B' β' σ'' w'' B'' β'') : Gr σ w B β σ'' w'' B'' β'' := by
  refine ⟨⟨h'.kept.os.trans h.kept.os, h'.kept.tape.trans h.kept.tape, h'.kept.output.trans h.kept.output, Nat.le_trans h.kept.drawn h'.kept.drawn, Nat.le_trans h.kept.size h'.kept.size, fun b hb hk => ?_⟩, fun j b hj hb => ?_, fun b hb => ?_, fun b hb => h'.mem b (h.mem b hb)⟩
  · rw [h'.kept.block b (Nat.lt_of_lt_of_le hb h.kept.size) fun j hj hbj => ?_, h.kept.block b hb hk]
    rcases h.own j b hj hbj with h1 | ⟨k, h1, h2⟩
    · omega
    · exact hk k h1 h2
  · rcases h'.own j b hj hb with h1 | ⟨k, h1, h2⟩
    · exact .inl (Nat.le_trans h.kept.size h1)
    · exact h.own k b h1 h2
  · rcases h'.rd b hb with h1 | h1 | ⟨k, h1, h2⟩
    · exact h.rd b h1
    · exact .inr (.inl (Nat.le_trans h.kept.size h1))
    · exact .inr (h.own k b h1 h2)

section
variable {P : Program} {σ σ' : Sto} {φ φ' : Hd} {w w' : World} {B B' : Nat → Prop}

theorem CloR.next (n : Nx σ φ w B σ' φ' w' B') {f : FuncId} {caps : List Cap} {v : Value} (h : CloR P φ w B f caps v) : CloR P φ' w' B' f caps v := by
  obtain ⟨vs, h1, h2, h3, h4⟩ := h
  refine ⟨vs, h1, h2, h3, fun i c u hc hu => ?_⟩
  have := h4 i c u hc hu
  cases c with
  | id i => exact ⟨n.phi _ _ this.1, this.2⟩
  | ro t x => exact (Rd.fr this n.fr).mono n.keep
  | me => obtain ⟨g, h5, h6, h7⟩ := this; exact ⟨g, h5, n.keep _ h6, n.fr.cell h7 h6⟩
  | bad => trivial
theorem CR.next (n : Nx σ φ w B σ' φ' w' B') : ∀ {c : C} {v : Value}, CR P σ φ w B c v → CR P σ' φ' w' B' c v := by
  intro c v h
  cases c with
  | dead => trivial
  | undef => exact h
  | nilsl => exact h
  | ro t x => obtain ⟨us, hv, hr⟩ := h; exact ⟨us, hv, (hr.fr n.fr).mono n.keep⟩
  | ref id => exact ⟨n.phi _ _ h.1, h.2⟩
  | sub id sz lo hi =>
    obtain ⟨A, m, c, A', h1, h2, h3, h4, h5, h6, h7⟩ := h
    refine ⟨A, m, c, A', n.phi _ _ h1, h2, h3, h4, h5, fun e t m xs hv hole hs => ?_, h7⟩
    obtain ⟨e', m', xs', hv', hole', h, _⟩ := n.sto id (by rw [h1]; simp) e t m xs hv hole hs
    exact h6 _ _ _ _ _ _ h
  | el id i hv =>
    obtain ⟨h1, hp, h2, h3⟩ := h
    have hp' : φ' id ≠ none := by
      cases hq : φ id with
      | none => exact absurd hq hp
      | some v => rw [n.phi _ _ hq]; simp
    refine ⟨h1, hp', fun e t m xs hv' hole hs => ?_, fun e a b xs hole hs => ?_⟩
    · obtain ⟨e', m', xs', hv'', hole', h, hl, _⟩ := n.sto id hp e t m xs hv' hole hs
      exact Nat.le_trans (h2 _ _ _ _ _ _ h) hl
    · obtain ⟨e', m', xs', hv'', hole', h, hl, hm⟩ := n.sto id hp _ _ _ _ _ _ hs
      have hm := hm rfl
      subst hm
      have he : hv'' = hv := Nat.le_antisymm hl (h2 _ _ _ _ _ _ h)
      subst he
      obtain ⟨g, o, m, c, h4, h5, h6, h7⟩ := h3 _ _ _ _ _ h
      exact ⟨g, o, m, c, n.phi _ _ h4, h5, h6, n.heads _ _ _ _ _ _ _ _ _ _ _ _ _ _ hs h h4 _ _ (by omega) h7⟩
  | adr id off => obtain ⟨g, h1, h2⟩ := h; exact ⟨g, n.phi _ _ h1, h2⟩
  | ela id i sz off =>
    obtain ⟨g, o, m, c, h1, h2, h3, h6, h7⟩ := h
    refine ⟨g, o, m, c, n.phi _ _ h1, h2, h3, fun e t m xs hv hole hs => ?_, h7⟩
    obtain ⟨e', m', xs', hv', hole', h, _⟩ := n.sto id (by rw [h1]; simp) e t m xs hv hole hs
    exact h6 _ _ _ _ _ _ h
  | ele id j i hv =>
    obtain ⟨h1, hp, h2, h3⟩ := h
    have hp' : φ' id ≠ none := by
      cases hq : φ id with
      | none => exact absurd hq hp
      | some v => rw [n.phi _ _ hq]; simp
    refine ⟨h1, hp', fun e t m xs hv' hole hs => ?_, fun e a b xs hole hs => ?_⟩
    · obtain ⟨e', m', xs', hv'', hole', h, hl, _⟩ := n.sto id hp e t m xs hv' hole hs
      exact Nat.le_trans (h2 _ _ _ _ _ _ h) hl
    · obtain ⟨e', m', xs', hv'', hole', h, hl, hm⟩ := n.sto id hp _ _ _ _ _ _ hs
      have hm := hm rfl
      subst hm
      have he : hv'' = hv := Nat.le_antisymm hl (h2 _ _ _ _ _ _ h)
      subst he
      obtain ⟨g, o, m, c, g2, o2, n2, c2, h4, h5, h6, h7, h8⟩ := h3 _ _ _ _ _ h
      exact ⟨g, o, m, c, g2, o2, n2, c2, n.phi _ _ h4, h5, h6, n.heads _ _ _ _ _ _ _ _ _ _ _ _ _ _ hs h h4 _ _ (by omega) h7, h8⟩
  | roa t x => obtain ⟨g, o, us, h1, h2, h3, h4, h5⟩ := h; exact ⟨g, o, us, h1, n.keep _ h2, h3, h4.fr n.fr h2, (h5.fr n.fr).mono n.keep⟩
  | clo f caps => exact CloR.next n h
  | sadr f caps => obtain ⟨g, u, h1, h2, h3, h4⟩ := h; exact ⟨g, u, h1, n.keep _ h2, n.fr.cell h3 h2, h4.next n⟩
  | clo1 f t x => obtain ⟨us, h1, h2⟩ := h; exact ⟨us, h1, (h2.fr n.fr).mono n.keep⟩
  | mref id => exact ⟨n.phi _ _ h.1, h.2⟩
  | mad id i => obtain ⟨g, h1, h2, h3⟩ := h; exact ⟨g, n.phi _ _ h1, h2, h3⟩

theorem CsR.next (n : Nx σ φ w B σ' φ' w' B') {cs : List C} {us : List Value} (h : CsR P σ φ w B cs us) : CsR P σ' φ' w' B' cs us :=
  ⟨h.1, h.2.1, fun i c v hc hv => (h.2.2 i c v hc hv).next n⟩
theorem VR.next (n : Nx σ φ w B σ' φ' w' B') {x : V} {v : Value} (h : VR P σ φ w B x v) : VR P σ' φ' w' B' x v := by
  cases x with
  | one c => exact CR.next n h
  | agg cs => obtain ⟨us, h1, h2⟩ := h; exact ⟨us, h1, h2.next n⟩
  | tup l =>
    obtain ⟨vs, h1, h2, h3⟩ := h
    exact ⟨vs, h1, h2, fun i p u hp hu => by obtain ⟨us, h4, h5⟩ := h3 i p u hp hu; exact ⟨us, h4.next n, h5⟩⟩

theorem OwL.next {t : Ty} {v : Value} {xs : List t.T} {bs : List Nat} (h : OwL P t w B v xs bs) (hf : Fr w w' B) (hk : ∀ b, B b → B' b)
    (hb : ∀ b ∈ bs, w'.heap[b]? = w.heap[b]?) : OwL P t w' B' v xs bs := by
  rcases h with h | ⟨g, o, c, cur, e, h1, h2, h3, h4, h5, h6⟩
  · exact .inl h
  · refine .inr ⟨g, o, c, cur, e, h1, ?_, h3, h4, h5, fun i hi => ?_⟩
    · rw [hb g (by simp [h5])]; exact h2
    · obtain ⟨us, h7, h8, h9⟩ := h6 i hi
      exact ⟨us, h7, h8, (h9.fr hf).mono hk⟩

theorem OwD.next {t : Ty} {v : Value} {xs : List (List t.T)} {hole : Option Int} {bs : List Nat} (h : OwD P t w B v xs hole bs) (hf : Fr w w' B) (hk : ∀ b, B b → B' b)
    (hb : ∀ b ∈ bs, w'.heap[b]? = w.heap[b]?) : OwD P t w' B' v xs hole bs := by
  rcases h with h | ⟨g, o, c, cur, e, bss, h1, h2, h3, h4, h5, h6, h7⟩
  · exact .inl h
  · refine .inr ⟨g, o, c, cur, e, bss, h1, ?_, h3, h4, h5, h6, fun i hi => ?_⟩
    · rw [hb g (by simp [h5])]; exact h2
    · obtain ⟨u, h8, h9, h10⟩ := h7 i hi
      refine ⟨u, h8, h9, ?_⟩
      rcases h10 with h | ⟨b, h11, h12⟩
      · exact .inl h
      · refine .inr ⟨b, h11, h12.next hf hk fun x hx => hb x ?_⟩
        rw [h5]
        exact List.mem_cons_of_mem _ (List.mem_flatten.2 ⟨b, List.mem_of_getElem? h11, hx⟩)

theorem Ow.next : ∀ {t : Ty} {m : Mo} {v : Value} {xs : List t.T} {hole : Option Int} {bs : List Nat}, Ow P w B v t m xs hole bs → Fr w w' B → (∀ b, B b → B' b) →
    (∀ b ∈ bs, w'.heap[b]? = w.heap[b]?) → Ow P w' B' v t m xs hole bs := by
  intro t m v xs hole bs h hf hk hb
  cases m with
  | fro => exact ⟨(h.1.fr hf).mono hk, h.2⟩
  | own => exact OwL.next h hf hk hb
  | deep => cases t <;> first | exact False.elim h | exact OwD.next h hf hk hb

theorem OwT.len : ∀ {t : Ty} {us : List Value} {x : t.T} {bs : List Nat}, OwT P t w B us x bs → us.length = t.n := by
  intro t
  induction t with
  | pair a b iha ihb =>
    intro us x bs h
    obtain ⟨u, v, b1, b2, rfl, rfl, h1, h2⟩ := h
    simp [Ty.n, iha h1, ihb h2]
  | list e t _ => intro us x bs h; obtain ⟨v, rfl, _⟩ := h; rfl
  | rows e t _ => intro us x bs h; obtain ⟨v, rfl, _⟩ := h; rfl
  | mptr t _ => intro us x bs h; obtain ⟨g, cur, e, b, rfl, _⟩ := h; rfl
  | kclo f t _ => intro us x bs h; obtain ⟨vs, rfl, _⟩ := h; rfl
  | _ => intro us x bs h; exact h.1.len

theorem OwT.one : ∀ {t : Ty} {us : List Value} {x : t.T} {bs : List Nat}, OwT P t w B us x bs → ∀ u ∈ us, u.oneCell' = true := by
  intro t
  induction t with
  | pair a b iha ihb =>
    intro us x bs h u hu
    obtain ⟨u, v, b1, b2, rfl, rfl, h1, h2⟩ := h
    rcases List.mem_append.1 hu with h | h
    · exact iha h1 _ h
    · exact ihb h2 _ h
  | list e t _ => intro us x bs h u hu; obtain ⟨v, rfl, ⟨A, n, c, rfl⟩, _⟩ := h; simp at hu; subst hu; rfl
  | rows e t _ => intro us x bs h u hu; obtain ⟨v, rfl, ⟨A, n, c, rfl⟩, _⟩ := h; simp at hu; subst hu; rfl
  | mptr t _ => intro us x bs h u hu; obtain ⟨g, cur, e, b, rfl, _⟩ := h; simp at hu; subst hu; rfl
  | kclo f t _ => intro us x bs h u hu; obtain ⟨vs, rfl, _⟩ := h; simp at hu; subst hu; rfl
  | _ => intro us x bs h; exact h.1.one

theorem OwT.next (hf : Fr w w' B) (hk : ∀ b, B b → B' b) : ∀ {t : Ty} {us : List Value} {x : t.T} {bs : List Nat}, OwT P t w B us x bs → (∀ b ∈ bs, w'.heap[b]? = w.heap[b]?) → OwT P t w' B' us x bs := by
  intro t
  induction t with
  | pair a b iha ihb =>
    intro us x bs h hb
    obtain ⟨u, v, b1, b2, h1, h2, h3, h4⟩ := h
    exact ⟨u, v, b1, b2, h1, h2, iha h3 fun b hx => hb b (by rw [h2]; exact List.mem_append_left _ hx), ihb h4 fun b hx => hb b (by rw [h2]; exact List.mem_append_right _ hx)⟩
  | list e t _ =>
    intro us x bs h hb
    obtain ⟨v, h1, h2, h3⟩ := h
    exact ⟨v, h1, h2, h3.next hf hk hb⟩
  | rows e t _ =>
    intro us x bs h hb
    obtain ⟨v, h1, h2, h3⟩ := h
    exact ⟨v, h1, h2, h3.next hf hk hb⟩
  | mptr t ih =>
    intro us x bs h hb
    obtain ⟨g, cur, e, b, h1, h2, h3, h4⟩ := h
    exact ⟨g, cur, e, b, h1, by rw [hb g (by simp [h4])]; exact h2, ih h3 fun x hx => hb x (by rw [h4]; exact List.mem_cons_of_mem _ hx), h4⟩
  | kclo f t ih =>
    intro us x bs h hb
    obtain ⟨vs, h1, h2⟩ := h
    exact ⟨vs, h1, ih h2 hb⟩
  | _ => intro us x bs h hb; exact ⟨(h.1.fr hf).mono hk, h.2⟩

theorem ObR.next (n : Nx σ φ w B σ' φ' w' B') {o : PObj} {v : Value} {bs : List Nat} (h : ObR P σ φ w B v bs o) (hb : ∀ b ∈ bs, w'.heap[b]? = w.heap[b]?) : ObR P σ' φ' w' B' v bs o := by
  cases o with
  | sl e t m xs hv hole => exact Ow.next h n.fr n.keep hb
  | box cs =>
    obtain ⟨g, cur, e, h1, h2, h3, h4⟩ := h
    exact ⟨g, cur, e, h1, by rw [hb g (by simp [h3])]; exact h2, h3, h4.next n⟩
  | mbox t x => exact OwT.next n.fr n.keep h hb
  | mp k e κ xs => exact MpR.next h hb
  | mat xs => exact MatR.next h hb

theorem Nx.trans {σ'' : Sto} {φ'' : Hd} {w'' : World} {B'' : Nat → Prop} (n : Nx σ φ w B σ' φ' w' B') (m : Nx σ' φ' w' B' σ'' φ'' w'' B'') : Nx σ φ w B σ'' φ'' w'' B'' := by
  have hne : ∀ id, φ id ≠ none → φ' id ≠ none := fun id h => by
    cases hq : φ id with
    | none => exact absurd hq h
    | some v => rw [n.phi _ _ hq]; simp
  refine ⟨fun id v h => m.phi _ _ (n.phi _ _ h), fun id hid e t mo xs hv hole hs => ?_, fun b hb => m.keep b (n.keep b hb), n.fr.trans (m.fr.mono n.keep), ?_⟩
  · obtain ⟨e1, m1, xs1, hv1, hole1, h1, h2, h3⟩ := m.sto id (hne id hid) _ _ _ _ _ _ hs
    obtain ⟨e2, m2, xs2, hv2, hole2, h4, h5, h6⟩ := n.sto id hid _ _ _ _ _ _ h1
    exact ⟨e2, m2, xs2, hv2, hole2, h4, Nat.le_trans h5 h2, fun h => h6 (h3 h)⟩
  · intro id e a b xs hv hole e' xs' hole' g o k c h1 h2 h3 j v hj hc
    have hid : φ id ≠ none := by rw [h3]; simp
    obtain ⟨e1, m1, xs1, hv1, hole1, q1, q2, q3⟩ := m.sto id (hne id hid) _ _ _ _ _ _ h1
    have hm := q3 rfl
    subst hm
    obtain ⟨e2, m2, xs2, hv2, hole2, q4, q5, q6⟩ := n.sto id hid _ _ _ _ _ _ q1
    rw [h2] at q4
    injection q4 with q4
    injection q4 with _ _ _ _ q7 _
    have : hv1 = hv := by omega
    subst this
    exact m.heads _ _ _ _ _ _ _ _ _ _ _ _ _ _ h1 q1 (n.phi _ _ h3) _ _ hj (n.heads _ _ _ _ _ _ _ _ _ _ _ _ _ _ q1 h2 h3 _ _ hj hc)
end

end Go.PV
