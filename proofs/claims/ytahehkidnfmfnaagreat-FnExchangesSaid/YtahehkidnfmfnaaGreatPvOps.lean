/- Each operation: what the evaluator says of it the machine does. First: those that make and turn no object. -/
import Derived.Test.YtahehkidnfmfnaaGreatPvStep
import Derived.Laws.Entries
set_option linter.all false
namespace Go.PV
open Go

def zeroInt (k : IntKind) : List Value → Bool
  | [.int k' (.ofNat 0)] => kb k k'
  | _ => false
def zeroBool : List Value → Bool
  | [.bool false] => true
  | _ => false
def zeroStr : List Value → Bool
  | [.string s] => Nat.beq s.data.toList.length 0
  | _ => false
def zeroNone : List Value → Bool
  | [] => true
  | _ => false
def zeroSl : List Value → Bool
  | [.slice none 0 0] => true
  | _ => false
def zeroPtr : List Value → Bool
  | [.pointer none] => true
  | _ => false
def zeroMap : List Value → Bool
  | [.map none] => true
  | _ => false
def zeroFn : List Value → Bool
  | [.nilFunc] => true
  | _ => false
def zeroOk : Ty → List Value → Bool
  | .int k, vs => zeroInt k vs
  | .bool, vs => zeroBool vs
  | .str, vs => zeroStr vs
  | .unit, vs => zeroNone vs
  | .pair a b, vs => both (zeroOk a (vs.take a.n)) (zeroOk b (vs.drop a.n))
  | .list _ _, vs => zeroSl vs
  | .ptr _, vs => zeroPtr vs
  | .fn1 _ _, vs => zeroFn vs
  | .fn2 _ _ _, vs => zeroFn vs
  | .rows _ _, vs => zeroSl vs
  | .mptr _, vs => zeroPtr vs
  | .kclo _ _, vs => zeroFn vs
  | .sptr _ _, vs => zeroMap vs
  | .rol _ _, vs => zeroSl vs

def aggDesc : TypeDesc → Bool
  | .struct _ => true
  | .array _ _ => true
  | _ => false

structure TdI (P : Program) (Γ : Tab) (τ : TypeId) (d : TD) (i : TypeInfo) (z : Value) (u : TypeDesc) : Prop where
  info : P.info? τ = some i
  size : i.size = d.ty.n
  bytes : d.ty.n < 64 → i.bytes ≤ 128
  small : ∀ e t, d.ty = .list e t → t.n < 64
  cells : d.ty.n ≤ 1000
  zero : i.zero = some z
  zeroOk : zeroOk d.ty z.cells.toList = true
  under : P.underlying τ = some u
  agg : aggDesc u = d.ty.agg
  int : ∀ k, d.ty = .int k → u = .int k
  bool : d.ty = .bool → u = .bool
  str : d.ty = .str → u = .string
  list : ∀ e t, d.ty = .list e t → u = .slice e ∧ (∃ l, d.el = some (e, t, l)) ∧ ∃ d' : TD, Γ e = some d' ∧ d'.ty = t
  struct : d.ty.agg = true → d.el = none → ∃ fields : Array Field, u = .struct fields ∧ fields.size = d.fs.length ∧ ∀ (f o : Nat) (t : Ty), d.fs[f]? = some (o, t) →
    ∃ fl : Field, fields[f]? = some fl ∧ fl.offset = o ∧ (∃ d' : TD, Γ fl.type = some d' ∧ d'.ty = t) ∧ o + t.n ≤ d.ty.n
  array : d.ty.agg = true → ∀ e t l, d.el = some (e, t, l) → u = .array l e ∧ (∃ d' : TD, Γ e = some d' ∧ d'.ty = t) ∧ l * t.n = d.ty.n
  plain : d.ty.agg = false → d.fs = []
  zbool : d.ty = .bool → z = .bool false
  mapd : ∀ k e, d.ty = .sptr k e → u = .map k e ∧ (∃ d' : TD, Γ k = some d' ∧ ∃ κ, d'.ty = .int κ) ∧ ∃ d' : TD, Γ e = some d' ∧ d'.ty = .bool
  elem : d.ty.agg = false → ∀ e t l, d.el = some (e, t, l) → d.ty = .list e t
def TdOk (P : Program) (Γ : Tab) (τ : TypeId) (d : TD) : Prop := ∃ i z u, TdI P Γ τ d i z u
def TabOk (P : Program) (Γ : Tab) : Prop := ∀ τ d, Γ τ = some d → TdOk P Γ τ d

section
variable {P : Program} {Γ : Tab} {σ : Sto} {φ : Hd} {w : World} {B : Nat → Prop} {R : Type} {r : R}

theorem ob_some {α β : Type} {x : Option α} {f : α → Option β} {y : β} (h : ob x f = some y) : ∃ a, x = some a ∧ f a = some y := by
  cases x with
  | none => simp [ob] at h
  | some a => exact ⟨a, rfl, h⟩
theorem cond_some {c : Bool} {x : Option R} {y : R} (h : cond c x none = some y) : c = true ∧ x = some y := by cases c <;> simp_all
theorem chk_some {c : Bool} {x : Option R} {y : R} (h : chk c x = some y) : c = true ∧ x = some y := by cases c <;> simp_all [chk, br]

theorem castT_some {a b : Ty} {x : a.T} {y : b.T} (h : castT b x = some y) : ∃ e : a = b, e ▸ x = y := by
  unfold castT at h
  split at h
  · rename_i hab
    injection h with h
    exact ⟨tyb_eq hab, h⟩
  · cases h

theorem kb_self (k : IntKind) : kb k k = true := by cases k <;> rfl
theorem tyb_self : ∀ t : Ty, tyb t t = true := by
  intro t
  induction t <;> simp_all [tyb, both_true, kb_self, beq_self]
theorem castT_self {t : Ty} (x : t.T) : castT t x = some x := by
  unfold castT
  rw [dif_pos (tyb_self t)]

theorem ro_int {k : IntKind} {n : Int} {v : Value} (h : CR P σ φ w B (.ro (.int k) n) v) : v = .int k n := by
  obtain ⟨us, rfl, h⟩ := h
  cases h
  rfl
theorem ro_bool {b : Bool} {v : Value} (h : CR P σ φ w B (.ro .bool b) v) : v = .bool b := by
  obtain ⟨us, rfl, h⟩ := h
  cases h
  rfl
theorem ro_str {b : ByteArray} {v : Value} (h : CR P σ φ w B (.ro .str b) v) : v = .string b := by
  obtain ⟨us, rfl, h⟩ := h
  cases h
  rfl
theorem cr_int (k : IntKind) (n : Int) : VR P σ φ w B (roV (.int k) n) (.int k n) := ⟨[.int k n], rfl, rfl⟩
theorem cr_bool (b : Bool) : VR P σ φ w B (roV .bool b) (.bool b) := ⟨[.bool b], rfl, rfl⟩

def Gives (P : Program) (σ : Sto) (φ : Hd) (w : World) (B : Nat → Prop) (S : Sem Value) (K : Kont R) (r : R) : Prop :=
  ∃ v val, K v [] = some r ∧ VR P σ φ w B v val ∧ S.run P w = .ok val w

theorem sim_int {op : BinOp} {k : IntKind} {a b : Int} {K : Kont R} {τ : TypeId} (hop : op ≠ .shl ∧ op ≠ .shr) (h : intF op k a b K = some r) :
    Gives P σ φ w B (binOp op τ (.int k a) (.int k b)) K r := by
  cases op <;> simp only [intF] at h <;> try (exact absurd h (by simp))
  case quo =>
    obtain ⟨h1, h2⟩ := chk_some h
    have : b ≠ 0 := by simpa [ine] using h1
    exact ⟨_, _, h2, cr_int _ _, by simp [binOp, Op.intDiv, this]⟩
  case rem =>
    obtain ⟨h1, h2⟩ := chk_some h
    have : b ≠ 0 := by simpa [ine] using h1
    exact ⟨_, _, h2, cr_int _ _, by simp [binOp, Op.intDiv, this]⟩
  all_goals first
    | exact ⟨_, _, h, cr_int _ _, by simp [binOp, Op.intArith, Op.intBits, bitop]⟩
    | exact ⟨_, _, h, cr_bool _, by simp [binOp, Op.intCmp, ilt, ile, ieq, ine]⟩


theorem one_cells {v : Value} (h : v.oneCell' = true) : v.cells = #[v] := by cases v <;> first | rfl | simp [Value.oneCell'] at h
theorem mk_agg {t : Ty} (h : t.agg = true) (us : List Value) : t.mk us = .agg us.toArray := by simp [Ty.mk, h]
theorem mk_one {t : Ty} (h : t.agg = false) (u : Value) : t.mk [u] = u := by simp [Ty.mk, h]
theorem n_one {t : Ty} (h : t.agg = false) : t.n = 1 := by cases t <;> simp_all [Ty.agg, Ty.n]

theorem mk_cells {t : Ty} {us : List Value} {x : t.T} (h : Rd P t w B us x) : (t.mk us).cells.toList = us := by
  cases ha : t.agg with
  | true => rw [mk_agg ha]; simp [Value.cells]
  | false =>
    have hl := h.len
    rw [n_one ha] at hl
    obtain ⟨u, rfl⟩ := List.length_eq_one_iff.1 hl
    rw [mk_one ha, one_cells (h.one u (by simp))]

theorem CsR.nil : CsR P σ φ w B [] [] := ⟨rfl, by simp, by simp⟩
theorem CsR.append {cs ds : List C} {us vs : List Value} (h : CsR P σ φ w B cs us) (h' : CsR P σ φ w B ds vs) : CsR P σ φ w B (cs ++ ds) (us ++ vs) := by
  refine ⟨by simp [h.1, h'.1], fun u hu => ?_, fun i c v hc hv => ?_⟩
  · rcases List.mem_append.1 hu with h1 | h1
    · exact h.2.1 u h1
    · exact h'.2.1 u h1
  · by_cases hi : i < cs.length
    · rw [List.getElem?_append_left hi] at hc
      rw [List.getElem?_append_left (by rw [h.1]; exact hi)] at hv
      exact h.2.2 i c v hc hv
    · rw [List.getElem?_append_right (by omega)] at hc
      rw [List.getElem?_append_right (by rw [h.1]; omega), h.1] at hv
      exact h'.2.2 _ c v hc hv
theorem CsR.single {c : C} {v : Value} (h : CR P σ φ w B c v) (h1 : v.oneCell' = true) : CsR P σ φ w B [c] [v] := by
  refine ⟨rfl, by simp [h1], fun i c' v' hc hv => ?_⟩
  cases i with
  | zero => simp at hc hv; subst hc; subst hv; exact h
  | succ i => simp at hc
theorem CsR.take {cs : List C} {us : List Value} (h : CsR P σ φ w B cs us) (n : Nat) : CsR P σ φ w B (cs.take n) (us.take n) := by
  refine ⟨by simp [h.1], fun u hu => h.2.1 u (List.mem_of_mem_take hu), fun i c v hc hv => ?_⟩
  rw [List.getElem?_take] at hc hv
  split at hc
  · rename_i hi
    rw [if_pos hi] at hv
    exact h.2.2 i c v hc hv
  · cases hc
theorem CsR.drop {cs : List C} {us : List Value} (h : CsR P σ φ w B cs us) (n : Nat) : CsR P σ φ w B (cs.drop n) (us.drop n) := by
  refine ⟨by simp [h.1], fun u hu => h.2.1 u (List.mem_of_mem_drop hu), fun i c v hc hv => ?_⟩
  rw [List.getElem?_drop] at hc hv
  exact h.2.2 _ c v hc hv

theorem split_rel : ∀ {t : Ty} {us : List Value} {x : t.T}, Rd P t w B us x → CsR P σ φ w B (split t x) us := by
  intro t
  induction t with
  | unit => intro us x h; cases h; exact CsR.nil
  | pair a b iha ihb =>
    intro us x h
    obtain ⟨u, v, rfl, h1, h2⟩ := h
    exact (iha h1).append (ihb h2)
  | int k => intro us x h; cases h; exact CsR.single ⟨_, rfl, rfl⟩ rfl
  | bool => intro us x h; cases h; exact CsR.single ⟨_, rfl, rfl⟩ rfl
  | str => intro us x h; cases h; exact CsR.single ⟨_, rfl, rfl⟩ rfl
  | list e t _ =>
    intro us x h
    have h0 := h
    obtain ⟨A, c, rfl, _⟩ := h
    exact CsR.single ⟨_, rfl, h0⟩ rfl
  | ptr t _ =>
    intro us x h
    have h0 := h
    obtain ⟨g, u, rfl, _⟩ := h
    exact CsR.single ⟨_, rfl, h0⟩ rfl
  | fn1 a r _ _ =>
    intro us x h
    have h0 := h
    obtain ⟨f, fst, caps, rfl, _⟩ := h
    exact CsR.single ⟨_, rfl, h0⟩ rfl
  | fn2 a b r _ _ _ =>
    intro us x h
    have h0 := h
    obtain ⟨f, fst, caps, rfl, _⟩ := h
    exact CsR.single ⟨_, rfl, h0⟩ rfl
  | rows e t _ => intro us x h; exact h.elim
  | rol e t _ => intro us x h; exact h.elim
  | mptr t _ => intro us x h; exact h.elim
  | kclo f t _ =>
    intro us x h
    have h0 := h
    obtain ⟨us', rfl, _⟩ := h
    exact CsR.single ⟨_, rfl, h0⟩ rfl
  | sptr f k =>
    intro us x h
    have h0 := h
    obtain ⟨g, caps, rfl, _⟩ := h
    exact CsR.single ⟨_, rfl, h0⟩ rfl

theorem cr_one {c : C} {v : Value} (h : CR P σ φ w B c v) (h1 : ∀ t x, c ≠ .ro t x) (h2 : c ≠ .dead) (h3 : c ≠ .undef) : v.oneCell' = true := by
  cases c with
  | dead => exact absurd rfl h2
  | undef => exact absurd rfl h3
  | nilsl => cases h; rfl
  | ro t x => exact absurd rfl (h1 t x)
  | ref id => obtain ⟨_, A, n, c, rfl⟩ := h; rfl
  | sub id sz lo hi => obtain ⟨A, m, c, A', _, _, _, _, _, _, _, rfl⟩ := h; rfl
  | el id i hv => exact h.1
  | adr id off => obtain ⟨g, _, rfl⟩ := h; rfl
  | ela id i sz off => obtain ⟨g, o, m, c, _, _, _, _, rfl⟩ := h; rfl
  | ele id j i hv => exact h.1
  | roa t x => obtain ⟨g, o, us, rfl, _⟩ := h; rfl
  | clo f caps => obtain ⟨vs, rfl, _⟩ := h; rfl
  | sadr f caps => obtain ⟨g, u, rfl, _⟩ := h; rfl
  | clo1 f t x => obtain ⟨us, rfl, _⟩ := h; rfl
  | mref id => obtain ⟨_, g, rfl⟩ := h; rfl
  | mad id i => obtain ⟨g, _, _, rfl⟩ := h; rfl

theorem cells_rel {v : V} {val : Value} (h : VR P σ φ w B v val) {cs : List C} (hc : v.cells = some cs) : CsR P σ φ w B cs val.cells.toList := by
  cases v with
  | tup l => simp [V.cells] at hc
  | agg ds =>
    simp only [V.cells, Option.some.injEq] at hc
    subst hc
    obtain ⟨us, rfl, h⟩ := h
    simpa [Value.cells] using h
  | one c =>
    by_cases hro : ∃ t x, c = .ro t x
    · obtain ⟨t, x, rfl⟩ := hro
      simp only [V.cells, Option.some.injEq] at hc
      subst hc
      obtain ⟨us, rfl, hr⟩ := h
      rw [mk_cells hr]
      exact split_rel hr
    · have h2 : c ≠ .dead := by rintro rfl; simp [V.cells] at hc
      have h3 : c ≠ .undef := by rintro rfl; simp [V.cells] at hc
      have h1 : ∀ t x, c ≠ .ro t x := fun t x e => hro ⟨t, x, e⟩
      have hcs : cs = [c] := by
        cases c <;> first | (simp [V.cells] at hc; exact hc.symm) | exact absurd rfl h2 | exact absurd rfl h3 | exact absurd rfl (h1 _ _)
      subst hcs
      have ho := cr_one (c := c) h h1 h2 h3
      rw [one_cells ho]
      exact CsR.single h ho

theorem ofCells_rel {b : Bool} {cs : List C} {us : List Value} (h : CsR P σ φ w B cs us) (hb : b = false → us.length = 1) :
    VR P σ φ w B (ofCells b cs) (cond b (.agg us.toArray) (us.headD undef)) := by
  cases b with
  | true => exact ⟨us, rfl, h⟩
  | false =>
    obtain ⟨u, rfl⟩ := List.length_eq_one_iff.1 (hb rfl)
    have hl := h.1
    simp at hl
    obtain ⟨c, rfl⟩ := List.length_eq_one_iff.1 hl.symm
    exact h.2.2 0 c u rfl rfl

theorem roV_rel {t : Ty} {us : List Value} {x : t.T} (h : Rd P t w B us x) : VR P σ φ w B (roV t x) (t.mk us) := ⟨us, rfl, h⟩

theorem proj_rel {u : Ty} : ∀ {t : Ty} {o : Nat} {us : List Value} {x : t.T} {y : u.T}, Rd P t w B us x → proj u t o x = some y →
    o + u.n ≤ t.n ∧ Rd P u w B ((us.drop o).take u.n) y := by
  have leaf : ∀ {t : Ty} {o : Nat} {us : List Value} {x : t.T} {y : u.T}, Rd P t w B us x → (if h : both (Nat.beq o 0) (tyb t u) = true then some (tyb_eq (both_true.1 h).2 ▸ x) else none) = some y →
      o + u.n ≤ t.n ∧ Rd P u w B ((us.drop o).take u.n) y := by
    intro t o us x y h hp
    split at hp
    · rename_i hb
      have h0 := beq_eq (both_true.1 hb).1
      have ht := tyb_eq (both_true.1 hb).2
      subst h0
      subst ht
      injection hp with hp
      subst hp
      refine ⟨by omega, ?_⟩
      rw [List.drop_zero, ← h.len, List.take_length]
      exact h
    · cases hp
  intro t
  induction t with
  | pair a b iha ihb =>
    intro o us x y h hp
    simp only [proj] at hp
    split at hp
    · rename_i hb
      exact leaf h (by rw [dif_pos hb]; exact hp)
    · obtain ⟨u1, v1, rfl, h1, h2⟩ := h
      have hl := h1.len
      cases hlt : Nat.blt o a.n with
      | true =>
        rw [hlt] at hp
        obtain ⟨h3, h4⟩ := iha h1 hp
        have : o + u.n ≤ u1.length := by omega
        refine ⟨by simp only [Ty.n]; omega, ?_⟩
        rw [List.drop_append_of_le_length (by omega), List.take_append_of_le_length (by simp; omega)]
        exact h4
      | false =>
        rw [hlt] at hp
        have hge : a.n ≤ o := by
          exact blt_ge hlt
        obtain ⟨h3, h4⟩ := ihb h2 hp
        refine ⟨by simp only [Ty.n]; omega, ?_⟩
        rw [List.drop_append, hl]
        have : u1.drop o = [] := List.drop_eq_nil_of_le (by omega)
        rw [this, List.nil_append]
        exact h4
  | _ => intro o us x y h hp; exact leaf h (by simpa only [proj] using hp)


theorem cell_of_heap {g : Nat} {cur : Array Value} {e : TypeId} {fz : Nat × Nat} (h : w.heap[g]? = some (.cells cur e fz)) (j : Nat) : w.cell? ⟨g, j, none⟩ = cur[j]? := by
  simp [World.cell?, h]

theorem OwL.rd {t : Ty} {v : Value} {xs : List t.T} {bs : List Nat} {B' : Nat → Prop} (h : OwL P t w B v xs bs) (e : TypeId) (hB : ∀ b, B b → B' b) (hb : ∀ b ∈ bs, B' b) :
    Rd P (.list e t) w B' [v] xs := by
  rcases h with ⟨rfl, rfl, _⟩ | ⟨g, o, c, cur, e', rfl, h2, h3, h4, h5, h6⟩
  · exact ⟨none, 0, rfl, Nat.le_refl _, fun h => absurd h (by simp)⟩
  · refine ⟨_, c, rfl, h3, fun _ => ⟨g, o, rfl, hb g (by simp [h5]), fun i hi => ?_⟩⟩
    obtain ⟨us, h7, h8, h9⟩ := h6 i hi
    exact ⟨us, h7, fun j hj => by rw [cell_of_heap h2]; exact h8 j hj, h9.mono hB⟩

theorem OwD.rd {t : Ty} {v : Value} {xs : List (List t.T)} {bs : List Nat} {B' : Nat → Prop} (h : OwD P t w B v xs none bs) (e a : TypeId) (hB : ∀ b, B b → B' b) (hb : ∀ b ∈ bs, B' b) :
    Rd P (.list e (.list a t)) w B' [v] xs := by
  rcases h with ⟨rfl, rfl, _⟩ | ⟨g, o, c, cur, e', bss, rfl, h2, h3, h4, h5, h6, h7⟩
  · exact ⟨none, 0, rfl, Nat.le_refl _, fun h => absurd h (by simp)⟩
  · refine ⟨_, c, rfl, h3, fun _ => ⟨g, o, rfl, hb g (by simp [h5]), fun i hi => ?_⟩⟩
    obtain ⟨u, h8, h9, h10⟩ := h7 i hi
    rcases h10 with ⟨h, _⟩ | ⟨b, h11, h12⟩
    · cases h
    · refine ⟨[u], rfl, fun j hj => ?_, h12.rd a hB fun x hx => hb x ?_⟩
      · have : j = 0 := by simp at hj; omega
        subst this
        rw [cell_of_heap h2]
        simpa [Ty.n] using h8
      · rw [h5]
        exact List.mem_cons_of_mem _ (List.mem_flatten.2 ⟨b, List.mem_of_getElem? h11, hx⟩)

theorem list_any (e e' : TypeId) {t : Ty} {vs : List Value} {xs : List t.T} (h : Rd P (.list e t) w B vs xs) : Rd P (.list e' t) w B vs xs := h

theorem Ow.rd {t : Ty} {m : Mo} {v : Value} {xs : List t.T} {bs : List Nat} {B' : Nat → Prop} (h : Ow P w B v t m xs none bs) (e : TypeId) (hB : ∀ b, B b → B' b) (hb : ∀ b ∈ bs, B' b) :
    Rd P (.list e t) w B' [v] xs := by
  cases m with
  | fro => exact list_any 0 e (h.1.mono hB)
  | own => exact OwL.rd h e hB hb
  | deep => cases t <;> first | exact False.elim h | exact OwD.rd h e _ hB hb

theorem Rd.part {e : TypeId} {t : Ty} {A A2 : Option Addr} {n c : Nat} {xs : List t.T} (h : Rd P (.list e t) w B [.slice A n c] xs) {lo hi : Int} (h0 : 0 ≤ lo) (h1 : lo ≤ hi) (h2 : hi ≤ n) (hs : SubA A A2 c lo.toNat t.n) :
    Rd P (.list e t) w B [.slice A2 (hi - lo).toNat (c - lo.toNat)] (tCut xs lo hi) := by
  obtain ⟨A', c', he, hc, hr⟩ := h
  injection he with he
  injection he with e1 e2 e3
  subst e1
  subst e3
  have hlen : (tCut xs lo hi).length = (hi - lo).toNat := by
    simp only [tCut, List.length_drop, List.length_take]
    omega
  refine ⟨_, _, by rw [hlen], by rw [hlen]; omega, fun hpos => ?_⟩
  rw [hlen] at hpos
  obtain ⟨g, o, hA, hg, hi'⟩ := hr (by omega)
  subst hA
  have hne : c ≠ lo.toNat := by omega
  obtain ⟨k, _, hk, rfl⟩ := hs
  have := hk hne
  subst this
  refine ⟨g, o + lo.toNat * t.n, ?_, hg, fun i hlt => ?_⟩
  · simp only [Option.map_some, Addr.add]
    split
    · rename_i hz
      rw [hz, Nat.add_zero]
    · rfl
  · have hlt' : i < (hi - lo).toNat := by rw [← hlen]; exact hlt
    obtain ⟨us, h7, h8, h9⟩ := hi' (lo.toNat + i) (by omega)
    refine ⟨us, h7, fun j hj => ?_, ?_⟩
    · rw [← h8 j hj]
      have : o + lo.toNat * t.n + i * t.n + j = o + (lo.toNat + i) * t.n + j := by rw [Nat.add_mul]; omega
      rw [this]
    · have : (tCut xs lo hi)[i] = xs[lo.toNat + i]'(by omega) := by
        simp only [tCut, List.getElem_drop, List.getElem_take]
      rw [this]
      exact h9

theorem Rd.cut {e : TypeId} {t : Ty} {A : Option Addr} {n c : Nat} {xs : List t.T} (h : Rd P (.list e t) w B [.slice A n c] xs) {lo hi : Int} (h0 : 0 ≤ lo) (h1 : lo ≤ hi) (h2 : hi ≤ n) :
    Rd P (.list e t) w B [.slice (if c = lo.toNat then A else A.map (·.add (lo.toNat * t.n))) (hi - lo).toNat (c - lo.toNat)] (tCut xs lo hi) := h.part h0 h1 h2 (SubA.cut _ _ _ _)

def Bx (σ : Sto) (β : Bl) (B : Nat → Prop) : Nat → Prop := fun b => B b ∨ ∃ i, σ i ≠ none ∧ b ∈ β i

def Obs (P : Program) (σ0 σ : Sto) (φ : Hd) (β : Bl) (w : World) (B : Nat → Prop) : Prop :=
  ∀ id o, σ id = some o → ∃ v, φ id = some v ∧ ObR P σ0 φ w B v (β id) o

theorem rd_at {t : Ty} {xs : List t.T} {i : Int} (h0 : 0 ≤ i) (h1 : i < xs.length) : ∃ h : i.toNat < xs.length, rd t xs i = xs[i.toNat] := by
  have h : i.toNat < xs.length := by omega
  exact ⟨h, by simp [rd, h]⟩

theorem Obs.slice {σ0 : Sto} {β : Bl} (O : Obs P σ0 σ φ β w B) {id : Id} {e : TypeId} {t : Ty} {m : Mo} {xs : List t.T} {hv : Nat} (h : σ id = some (.sl e t m xs hv none)) (e' : TypeId) :
    ∃ v, φ id = some v ∧ Rd P (.list e' t) w (Bx σ β B) [v] xs := by
  obtain ⟨v, h1, h2⟩ := O id _ h
  exact ⟨v, h1, Ow.rd h2 e' (fun b hb => .inl hb) fun b hb => .inr ⟨id, by rw [h]; simp, hb⟩⟩

theorem asC_rel {σ0 : Sto} {β : Bl} (O : Obs P σ0 σ φ β w B) (hσ : ∀ id o, σ id = some o → σ0 id = some o) {t : Ty} {c : C} {v : Value} {x : t.T} (hc : CR P σ0 φ w B c v) (h : asC σ t c = some x) :
    ∃ us, v = t.mk us ∧ Rd P t w (Bx σ β B) us x := by
  cases c with
  | ro a y =>
    obtain ⟨us, rfl, hr⟩ := hc
    obtain ⟨e, rfl⟩ := castT_some h
    subst e
    exact ⟨us, rfl, hr.mono fun b hb => .inl hb⟩
  | nilsl =>
    cases hc
    cases t <;> simp only [asC] at h <;> first | (cases h; done) | skip
    injection h with h
    subst h
    exact ⟨[.slice none 0 0], rfl, none, 0, rfl, Nat.le_refl _, fun h => absurd h (by simp)⟩
  | ref id =>
    simp only [asC] at h
    split at h
    · rename_i e a m xs hv ho
      obtain ⟨e1, rfl⟩ := castT_some h
      obtain ⟨v', h1, h2⟩ := O.slice ho e
      rw [hc.1] at h1
      injection h1 with h1
      subst h1
      subst e1
      exact ⟨[v], rfl, h2⟩
    · cases h
  | sub id sz lo hi =>
    simp only [asC] at h
    split at h
    · rename_i e a m xs hv ho
      obtain ⟨e1, rfl⟩ := castT_some h
      obtain ⟨v', h1, h2⟩ := O.slice ho e
      obtain ⟨A, n, c, A', h3, h4, h5, h6, h7, h8, h9, rfl⟩ := hc
      rw [h3] at h1
      injection h1 with h1
      subst h1
      subst e1
      have := h8 _ _ _ _ _ _ (hσ _ _ ho)
      subst this
      exact ⟨_, rfl, h2.part h4 h5 h6 h9⟩
    · cases h
  | el id i hv =>
    simp only [asC] at h
    split at h
    · rename_i e0 e a xs hv' ho
      obtain ⟨hb, hq⟩ := cond_some h
      have := beq_eq hb
      subst this
      obtain ⟨e1, rfl⟩ := castT_some hq
      obtain ⟨v', h1, h2⟩ := O id _ ho
      obtain ⟨g, o, n, c, h3, h4, h5, h6⟩ := hc.2.2.2 _ _ _ _ _ (hσ _ _ ho)
      rw [h3] at h1
      injection h1 with h1
      subst h1
      subst e1
      have h2' : OwD P a w B _ xs none (β id) := h2
      rcases h2' with ⟨hx, _⟩ | ⟨g', o', c', cur, e', bss, hx, h7, h8, h9, h10, h11, h12⟩
      · cases hx
      · injection hx with hx1 hx2 hx3
        injection hx1 with hx1
        injection hx1 with hx1 hx4
        subst hx1
        subst hx4
        obtain ⟨hlt, hrd⟩ := rd_at (t := .list e a) (xs := xs) h4 (by omega)
        obtain ⟨u, h13, _, h14⟩ := h12 i.toNat hlt
        rw [cell_of_heap h7, h13] at h6
        injection h6 with h6
        subst h6
        rcases h14 with ⟨h, _⟩ | ⟨b, h15, h16⟩
        · cases h
        · refine ⟨[u], rfl, ?_⟩
          rw [hrd]
          refine h16.rd e (fun b hb => .inl hb) fun x hx => .inr ⟨id, by rw [ho]; simp, ?_⟩
          rw [h10]
          exact List.mem_cons_of_mem _ (List.mem_flatten.2 ⟨b, List.mem_of_getElem? h15, hx⟩)
    · cases h
  | _ => simp [asC] at h


theorem Rd.shut {a b : Ty} {us vs : List Value} {x : a.T} {y : b.T} (h : Rd P a w B us x) (h' : Rd P b w B vs y) : Rd P (.pair a b) w B (us ++ vs) (x, y) := ⟨us, vs, rfl, h, h'⟩

theorem asCs_rel {σ0 : Sto} {β : Bl} (O : Obs P σ0 σ φ β w B) (hσ : ∀ id o, σ id = some o → σ0 id = some o) : ∀ {t : Ty} {cs : List C} {us : List Value} {x : t.T},
    CsR P σ0 φ w B cs us → asCs σ t cs = some x → Rd P t w (Bx σ β B) us x := by
  have leaf : ∀ {t : Ty} {cs : List C} {us : List Value} {x : t.T}, t.agg = false → CsR P σ0 φ w B cs us → (∃ c, cs = [c] ∧ asC σ t c = some x) → Rd P t w (Bx σ β B) us x := by
    intro t cs us x ha hc ⟨c, e, h⟩
    subst e
    obtain ⟨v, rfl⟩ := List.length_eq_one_iff.1 (by simpa using hc.1)
    have h1 := hc.2.2 0 c v rfl rfl
    obtain ⟨us, hv, hr⟩ := asC_rel O hσ h1 h
    have hl := hr.len
    rw [n_one ha] at hl
    obtain ⟨u, rfl⟩ := List.length_eq_one_iff.1 hl
    rw [mk_one ha] at hv
    subst hv
    exact hr
  intro t
  induction t with
  | unit =>
    intro cs us x hc h
    cases cs with
    | nil =>
      have : us = [] := List.eq_nil_of_length_eq_zero (by simpa using hc.1)
      subst this
      rfl
    | cons c r => simp [asCs] at h
  | pair a b iha ihb =>
    intro cs us x hc h
    simp only [asCs] at h
    obtain ⟨y, h1, h2⟩ := ob_some h
    obtain ⟨z, h3, h4⟩ := ob_some h2
    injection h4 with h4
    subst h4
    have := (iha (hc.take a.n) h1).shut (ihb (hc.drop a.n) h3)
    rwa [List.take_append_drop] at this
  | _ =>
    intro cs us x hc h
    refine leaf rfl hc ?_
    match cs, h with
    | [], h => simp [asCs] at h
    | [c], h => exact ⟨c, rfl, by simpa only [asCs] using h⟩
    | c :: d :: r, h => simp [asCs] at h


theorem asT_rel {σ0 : Sto} {β : Bl} (O : Obs P σ0 σ φ β w B) (hσ : ∀ id o, σ id = some o → σ0 id = some o) {t : Ty} {v : V} {val : Value} {x : t.T} (hv : VR P σ0 φ w B v val) (h : asT σ t v = some x) :
    ∃ us, val = t.mk us ∧ Rd P t w (Bx σ β B) us x := by
  cases v with
  | one c => exact asC_rel O hσ hv h
  | agg cs =>
    obtain ⟨us, rfl, hc⟩ := hv
    obtain ⟨ha, h'⟩ := cond_some h
    exact ⟨us, by rw [mk_agg ha], asCs_rel O hσ hc h'⟩
  | tup l => simp [asT] at h

end
end Go.PV
