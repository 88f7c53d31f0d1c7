/- The evaluator over pure values: types, values, stores, shapes, operations, code. No theorem here. -/
import Derived.Calls
import Derived.Orders
import Derived.KernelRfl
set_option linter.all false
namespace Go.PV
open Go

inductive Ty where
  | int (k : IntKind)
  | bool
  | str
  | unit
  | pair (a b : Ty)
  | list (e : TypeId) (t : Ty)
  | ptr (t : Ty)
  | fn1 (a r : Ty)
  | fn2 (a b r : Ty)
  | rows (e : TypeId) (t : Ty)
  | mptr (t : Ty)
  | kclo (f : FuncId) (t : Ty)
  | sptr (f : FuncId) (k : Nat)
  | rol (e : TypeId) (t : Ty)

def ob {α β : Type} (x : Option α) (f : α → Option β) : Option β :=
  match x with
  | some a => f a
  | none => none

def both (a b : Bool) : Bool := cond a b false
def no (b : Bool) : Bool := cond b false true
theorem no_true {b : Bool} : no b = true ↔ b = false := by cases b <;> simp [no]
theorem both_true {a b : Bool} : both a b = true ↔ a = true ∧ b = true := by cases a <;> simp [both]

def kcode : IntKind → Nat
  | .i8 => 0
  | .i16 => 1
  | .i32 => 2
  | .i64 => 3
  | .u8 => 4
  | .u16 => 5
  | .u32 => 6
  | .u64 => 7
def kb (a b : IntKind) : Bool := Nat.beq (kcode a) (kcode b)
theorem kb_eq {a b : IntKind} (h : kb a b = true) : a = b := by
  cases a <;> cases b <;> first | rfl | exact absurd h (by decide)

def tyb : Ty → Ty → Bool
  | .int k, .int k' => kb k k'
  | .bool, .bool => true
  | .str, .str => true
  | .unit, .unit => true
  | .pair a b, .pair c d => both (tyb a c) (tyb b d)
  | .list e a, .list f b => both (Nat.beq e f) (tyb a b)
  | .ptr a, .ptr b => tyb a b
  | .fn1 a r, .fn1 b s => both (tyb a b) (tyb r s)
  | .fn2 a b r, .fn2 c d s => both (tyb a c) (both (tyb b d) (tyb r s))
  | .rows e a, .rows f b => both (Nat.beq e f) (tyb a b)
  | .mptr a, .mptr b => tyb a b
  | .kclo f a, .kclo g b => both (Nat.beq f g) (tyb a b)
  | .sptr f k, .sptr g l => both (Nat.beq f g) (Nat.beq k l)
  | .rol e a, .rol f b => both (Nat.beq e f) (tyb a b)
  | _, _ => false
theorem tyb_eq : ∀ {a b : Ty}, tyb a b = true → a = b := by
  intro a
  induction a with
  | int k => intro b h; cases b <;> simp [tyb] at h; rw [kb_eq h]
  | bool => intro b h; cases b <;> simp [tyb] at h; rfl
  | str => intro b h; cases b <;> simp [tyb] at h; rfl
  | unit => intro b h; cases b <;> simp [tyb] at h; rfl
  | pair a b iha ihb => intro c h; cases c <;> simp [tyb, both_true] at h; rw [iha h.1, ihb h.2]
  | list e a ih => intro c h; cases c <;> simp [tyb, both_true] at h; rw [h.1, ih h.2]
  | ptr a ih => intro c h; cases c <;> simp [tyb] at h; rw [ih h]
  | fn1 a r iha ihr => intro c h; cases c <;> simp [tyb, both_true] at h; rw [iha h.1, ihr h.2]
  | fn2 a b r iha ihb ihr => intro c h; cases c <;> simp [tyb, both_true] at h; rw [iha h.1, ihb h.2.1, ihr h.2.2]
  | rows e a ih => intro c h; cases c <;> simp [tyb, both_true] at h; rw [h.1, ih h.2]
  | mptr a ih => intro c h; cases c <;> simp [tyb] at h; rw [ih h]
  | kclo f a ih => intro c h; cases c <;> simp [tyb, both_true] at h; rw [h.1, ih h.2]
  | sptr f k => intro c h; cases c <;> simp [tyb, both_true] at h; rw [h.1, h.2]
  | rol e a ih => intro c h; cases c <;> simp [tyb, both_true] at h; rw [h.1, ih h.2]

@[reducible] def Ty.T : Ty → Type
  | .int _ => Int
  | .bool => Bool
  | .str => ByteArray
  | .unit => Unit
  | .pair a b => a.T × b.T
  | .list _ t => List t.T
  | .ptr t => t.T
  | .fn1 a r => a.T → Option r.T
  | .fn2 a b r => a.T → b.T → Option r.T
  | .rows _ t => List t.T
  | .mptr t => t.T
  | .kclo _ t => t.T
  | .sptr _ _ => Unit
  | .rol _ t => List t.T

def Ty.n : Ty → Nat
  | .unit => 0
  | .pair a b => a.n + b.n
  | _ => 1

def Ty.agg : Ty → Bool
  | .unit => true
  | .pair _ _ => true
  | _ => false

def Ty.isList : Ty → Bool
  | .list _ _ => true
  | _ => false

def Ty.flat : Ty → Bool
  | .int _ => true
  | .bool => true
  | .str => true
  | .unit => true
  | .pair a b => both a.flat b.flat
  | _ => false

def Ty.owns : Ty → Bool
  | .pair a b => both a.owns b.owns
  | .list _ (.list _ t) => t.flat
  | .list _ t => t.flat
  | t => t.flat

def Ty.para : Ty → Bool
  | .pair a b => both a.para b.para
  | .list _ (.list _ t) => t.flat
  | .list _ t => t.flat
  | .rows _ _ => true
  | .mptr t => t.para
  | .kclo _ t => t.para
  | .ptr _ => true
  | .rol _ _ => true
  | t => t.flat
def Ty.hands : Ty → Bool
  | .pair a b => both a.hands b.hands
  | .list _ (.list _ t) => t.flat
  | .list _ t => t.flat
  | .mptr t => t.owns
  | .kclo _ t => t.hands
  | .ptr _ => true
  | t => t.flat

def Ty.dflt : (t : Ty) → t.T
  | .int _ => (0 : Int)
  | .bool => false
  | .str => ByteArray.empty
  | .unit => ()
  | .pair a b => (a.dflt, b.dflt)
  | .list _ _ => []
  | .ptr t => t.dflt
  | .fn1 _ _ => fun _ => none
  | .fn2 _ _ _ => fun _ _ => none
  | .rows _ _ => []
  | .mptr t => t.dflt
  | .kclo _ t => t.dflt
  | .sptr _ _ => ()
  | .rol _ _ => []

def tLen {α : Type} (xs : List α) : Int := (xs.length : Int)
def tApp {α : Type} (xs ys : List α) : List α := xs ++ ys
def tCut {α : Type} (xs : List α) (lo hi : Int) : List α := (xs.take hi.toNat).drop lo.toNat
def tSet {α : Type} (xs : List α) (i : Int) (v : α) : List α := xs.set i.toNat v
def tRep {α : Type} (n : Int) (v : α) : List α := List.replicate n.toNat v
def rd (t : Ty) (xs : List t.T) (i : Int) : t.T := xs.getD i.toNat t.dflt

def ilt (a b : Int) : Bool := decide (a < b)
def ile (a b : Int) : Bool := decide (a ≤ b)
def ieq (a b : Int) : Bool := a == b
def ine (a b : Int) : Bool := a != b
def fits (n : Int) : Bool := Nat.ble n.toNat 1099511627776
def room {α β : Type} (xs : List α) (ys : List β) : Bool := Nat.ble (xs.length + ys.length) 1099511627776
def inb {α : Type} (xs : List α) (i : Int) : Bool := ile 0 i && ilt i (tLen xs)

def br {R : Type} (b : Bool) (x y : Option R) : Option R := cond b x y
def inbC (n : Nat) (i : Int) : Bool :=
  match i with
  | .ofNat m => Nat.blt m n
  | _ => false

def chk {R : Type} (b : Bool) (k : Option R) : Option R := br b k none

def castT {a : Ty} (b : Ty) (x : a.T) : Option b.T := if h : tyb a b = true then some (tyb_eq h ▸ x) else none

abbrev Id := Nat

def hasId : List Id → Id → Bool
  | [], _ => false
  | j :: l, i => cond (Nat.beq i j) true (hasId l i)

inductive Cap where
  | id (i : Id)
  | ro (t : Ty) (x : t.T)
  | me
  | bad

inductive C where
  | dead
  | undef
  | nilsl
  | ro (t : Ty) (x : t.T)
  | ref (id : Id)
  | sub (id : Id) (sz : Nat) (lo hi : Int)
  | el (id : Id) (i : Int) (hv : Nat)
  | adr (id : Id) (off : Nat)
  | ela (id : Id) (i : Int) (sz off : Nat)
  | ele (id : Id) (j i : Int) (hv : Nat)
  | roa (t : Ty) (x : t.T)
  | clo (f : FuncId) (caps : List Cap)
  | sadr (f : FuncId) (caps : List Cap)
  | clo1 (f : FuncId) (t : Ty) (x : t.T)
  | mref (id : Id)
  | mad (id : Id) (i : Int)

inductive V where
  | one (c : C)
  | agg (cs : List C)
  | tup (vs : List (Bool × List C))

inductive Mo where
  | own
  | deep
  | fro
def mob : Mo → Mo → Bool
  | .own, .own => true
  | .deep, .deep => true
  | .fro, .fro => true
  | _, _ => false
theorem mob_eq {a b : Mo} (h : mob a b = true) : a = b := by cases a <;> cases b <;> first | rfl | exact absurd h (by decide)

inductive PObj where
  | sl (e : TypeId) (t : Ty) (m : Mo) (xs : List t.T) (hv : Nat) (hole : Option Int)
  | box (cs : List C)
  | mbox (t : Ty) (x : t.T)
  | mp (k e : TypeId) (κ : IntKind) (xs : List Int)
  | mat (xs : List Int)

def Cap.c (f : FuncId) (caps : List Cap) : Cap → C
  | .id i => .adr i 0
  | .ro t x => .ro (.ptr t) x
  | .me => .sadr f caps
  | .bad => .dead
def Cap.of : C → Cap
  | .adr i 0 => .id i
  | .ro (.ptr t) x => .ro t x
  | _ => .bad

abbrev Env := Nat → V
abbrev Sto := Id → Option PObj

structure St where
  env : Env
  sto : Sto

def Env.put (e : Env) (d : Option Nat) (v : V) : Env :=
  match d with
  | some t => fun u => cond (Nat.beq u t) v (e u)
  | none => e
def Sto.put (σ : Sto) (i : Id) (o : Option PObj) : Sto := fun j => cond (Nat.beq j i) o (σ j)

def Sto.only (σ : Sto) (l : List Id) : Sto := fun i => cond (hasId l i) (σ i) none

abbrev Upd := List (Id × Option PObj)
def Sto.puts (σ : Sto) : Upd → Sto
  | [] => σ
  | (i, o) :: r => (σ.put i o).puts r

structure TD where
  ty : Ty
  fs : List (Nat × Ty)
  el : Option (TypeId × Ty × Nat)
abbrev Tab := TypeId → Option TD

inductive Mode where
  | ro
  | own
  | mut
  deriving DecidableEq

def argsT : List (Mode × Ty) → Type
  | [] => Unit
  | (_, t) :: r => t.T × argsT r
def mutT : List (Mode × Ty) → Type
  | [] => Unit
  | (.mut, t) :: r => t.T × mutT r
  | (_, _) :: r => mutT r
def resT : List (Bool × Ty) → Type
  | [] => Unit
  | (_, t) :: r => t.T × resT r

structure FSum where
  ps : List (Mode × Ty)
  rs : List (Bool × Ty)
  f : argsT ps → Option (resT rs × mutT ps)
abbrev GTab := FuncId → Option FSum

def asC (σ : Sto) (t : Ty) : C → Option t.T
  | .ro a x => castT t x
  | .nilsl => match t with
    | .list _ _ => some []
    | _ => none
  | .ref id => match σ id with
    | some (.sl e a _ xs _ none) => castT (a := .list e a) t xs
    | _ => none
  | .sub id _ lo hi => match σ id with
    | some (.sl e a _ xs _ none) => castT (a := .list e a) t (tCut xs lo hi)
    | _ => none
  | .el id i hv => match σ id with
    | some (.sl _ (.list e a) .deep xs hv' none) => cond (Nat.beq hv hv') (castT (a := .list e a) t (rd (.list e a) xs i)) none
    | _ => none
  | _ => none

def asCs (σ : Sto) : (t : Ty) → List C → Option t.T
  | .unit, [] => some ()
  | .unit, _ :: _ => none
  | .pair a b, cs => ob (asCs σ a (cs.take a.n)) fun x => ob (asCs σ b (cs.drop a.n)) fun y => some (x, y)
  | t, [c] => asC σ t c
  | _, _ => none

def asT (σ : Sto) (t : Ty) : V → Option t.T
  | .one c => asC σ t c
  | .agg cs => cond t.agg (asCs σ t cs) none
  | .tup _ => none

def asPtr (σ : Sto) (t : Ty) : C → Option t.T
  | .ro a x => castT (a := a) (.ptr t) x
  | .adr id 0 => match σ id with
    | some (.box cs) => cond (Nat.beq cs.length t.n) (asCs σ t cs) none
    | some (.mbox a x) => cond a.owns (castT (a := a) t x) none
    | _ => none
  | _ => none

def capC (σ : Sto) (t : Ty) : Cap → Option t.T
  | .id i => asPtr σ t (.adr i 0)
  | .ro a x => castT (a := a) t x
  | _ => none
def capsT (σ : Sto) : (ps : List (Mode × Ty)) → List Cap → Option (argsT ps)
  | [], [] => some ()
  | (.ro, .ptr t) :: r, i :: is => ob (capC σ t i) fun x => ob (capsT σ r is) fun y => some (x, y)
  | _, _ => none

def asCapsT (σ : Sto) : (t : Ty) → List Cap → Option t.T
  | .unit, [] => some ()
  | .pair (.ptr a) b, c :: cs => ob (capC σ a c) fun x => ob (asCapsT σ b cs) fun y => some (x, y)
  | .ptr a, [c] => capC σ a c
  | _, _ => none
def asR (σ : Sto) (t : Ty) (v : V) : Option t.T :=
  match t, v with
  | .kclo f' t', .one (.clo f caps) => cond (Nat.beq f f') (asCapsT σ t' caps) none
  | t, v => asT σ t v

def noSelf : List (Mode × Ty) → Bool
  | [] => true
  | (_, .sptr _ _) :: _ => false
  | _ :: r => noSelf r
def Gn (G : GTab) (f : FuncId) : Option FSum :=
  match G f with
  | some F => cond (noSelf F.ps) (some F) none
  | none => none
def asFn (G : GTab) (σ : Sto) (t : Ty) (c : C) : Option t.T :=
  match t with
  | .fn1 a r => match c with
    | .ro b x => castT (.fn1 a r) x
    | .clo f caps => match Gn G f with
      | some ⟨(.ro, a') :: ps, [(_, r')], g⟩ => ob (capsT σ ps caps) fun cs =>
        if h : both (tyb a a') (both (tyb r' r) r.flat) = true then some fun x => (g (tyb_eq (both_true.1 h).1 ▸ x, cs)).bind fun y => some (tyb_eq (both_true.1 (both_true.1 h).2).1 ▸ y.1.1) else none
      | _ => none
    | .clo1 f b z => match Gn G f with
      | some ⟨[(.ro, b'), (.ro, a')], [(_, r')], g⟩ =>
        if h : both (both (tyb a a') (tyb b b')) (both (tyb r' r) r.flat) = true then some fun x => (g (tyb_eq (both_true.1 (both_true.1 h).1).2 ▸ z, tyb_eq (both_true.1 (both_true.1 h).1).1 ▸ x, ())).bind fun y => some (tyb_eq (both_true.1 (both_true.1 h).2).1 ▸ y.1.1) else none
      | _ => none
    | _ => none
  | .fn2 a b r => match c with
    | .ro c' x => castT (.fn2 a b r) x
    | .clo f caps => match Gn G f with
      | some ⟨(.ro, a') :: (.ro, b') :: ps, [(_, r')], g⟩ => ob (capsT σ ps caps) fun cs =>
        if h : both (both (tyb a a') (tyb b b')) (both (tyb r' r) r.flat) = true then some fun x y => (g (tyb_eq (both_true.1 (both_true.1 h).1).1 ▸ x, tyb_eq (both_true.1 (both_true.1 h).1).2 ▸ y, cs)).bind fun z => some (tyb_eq (both_true.1 (both_true.1 h).2).1 ▸ z.1.1) else none
      | _ => none
    | .clo1 f d z => match Gn G f with
      | some ⟨[(.ro, d'), (.ro, a'), (.ro, b')], [(_, r')], g⟩ =>
        if h : both (both (tyb a a') (both (tyb b b') (tyb d d'))) (both (tyb r' r) r.flat) = true then
          some fun x y => (g (tyb_eq (both_true.1 (both_true.1 (both_true.1 h).1).2).2 ▸ z, tyb_eq (both_true.1 (both_true.1 h).1).1 ▸ x, tyb_eq (both_true.1 (both_true.1 (both_true.1 h).1).2).1 ▸ y, ())).bind
            fun u => some (tyb_eq (both_true.1 (both_true.1 h).2).1 ▸ u.1.1) else none
      | _ => none
    | _ => none
  | _ => none


def split : (t : Ty) → t.T → List C
  | .unit, _ => []
  | .pair a b, x => split a x.1 ++ split b x.2
  | t, x => [.ro t x]

def roV (t : Ty) (x : t.T) : V := .one (.ro t x)

def zeroCs : Ty → List C
  | .int k => [.ro (.int k) (0 : Int)]
  | .bool => [.ro .bool false]
  | .str => [.ro .str ByteArray.empty]
  | .unit => []
  | .pair a b => zeroCs a ++ zeroCs b
  | .list _ _ => [.nilsl]
  | _ => [.dead]

def mkOwn : (t : Ty) → t.T → (d : Nat) → List C × List (Id × Option PObj) × Nat
  | .unit, _, d => ([], [], d)
  | .pair a b, x, d =>
    let p := mkOwn a x.1 d
    let q := mkOwn b x.2 p.2.2
    (p.1 ++ q.1, p.2.1 ++ q.2.1, q.2.2)
  | .list u t, x, d => ([.ref d], [(d, some (.sl u t (cond t.isList .deep .own) x 0 none))], d + 1)
  | .rows u t, x, d => ([.ref d], [(d, some (.sl u t .own x 0 none))], d + 1)
  | .mptr t, x, d => ([.adr d 0], [(d, some (.mbox t x))], d + 1)
  | .kclo f t, x, d =>
    let p := mkOwn t x d
    ([.clo f (p.1.map Cap.of)], p.2.1, p.2.2)
  | .rol e t, x, d => ([.ro (.list e t) x], [], d)
  | t, x, d => ([.ro t x], [], d)

def lists : Ty → Nat
  | .pair a b => lists a + lists b
  | .list _ _ => 1
  | .rows _ _ => 1
  | .mptr _ => 1
  | .kclo _ t => lists t
  | _ => 0

def V.cells : V → Option (List C)
  | .one (.ro t x) => some (split t x)
  | .one .dead => none
  | .one .undef => none
  | .one c => some [c]
  | .agg cs => some cs
  | .tup _ => none

def V.isAgg : V → Bool
  | .one (.ro t _) => t.agg
  | .agg _ => true
  | _ => false
def agb (a b : Bool) : Bool := cond a b (no b)
theorem agb_eq {a b : Bool} (h : agb a b = true) : a = b := by cases a <;> cases b <;> simp_all [agb, no]

def ofCells (agg : Bool) (cs : List C) : V :=
  cond agg (.agg cs) (match cs with
    | [c] => .one c
    | _ => .one .dead)

def ofComp (p : Bool × List C) : V := ofCells p.1 p.2

def proj (u : Ty) : (t : Ty) → (o : Nat) → t.T → Option u.T
  | .pair a b, o, x =>
    if h : both (Nat.beq o 0) (tyb (Ty.pair a b) u) = true then some (tyb_eq (both_true.1 h).2 ▸ x)
    else cond (Nat.blt o a.n) (proj u a o x.1) (proj u b (o - a.n) x.2)
  | t, o, x => if h : both (Nat.beq o 0) (tyb t u) = true then some (tyb_eq (both_true.1 h).2 ▸ x) else none

def putAt (u : Ty) : (t : Ty) → (o : Nat) → t.T → u.T → Option t.T
  | .pair a b, o, x, y => cond (both (Nat.beq o 0) (tyb u (.pair a b))) (castT (a := u) (.pair a b) y)
      (cond (Nat.blt o a.n) (ob (putAt u a o x.1 y) fun z => some (z, x.2)) (ob (putAt u b (o - a.n) x.2 y) fun z => some (x.1, z)))
  | t, o, _, y => cond (Nat.beq o 0) (castT (a := u) t y) none

def partCs (u : Ty) (o : Nat) (cs : List C) : V := ofCells u.agg ((cs.drop o).take u.n)

def bitop (op : BinOp) (k : IntKind) (x y : Int) : Int :=
  let a := BitVec.ofInt k.bits x
  let b := BitVec.ofInt k.bits y
  match op with
  | .and => k.wrap (a &&& b).toNat
  | .or => k.wrap (a ||| b).toNat
  | .xor => k.wrap (a ^^^ b).toNat
  | _ => k.wrap (a &&& ~~~b).toNat
def shlI (k : IntKind) (x y : Int) : Int := k.wrap (x * 2 ^ (min y.toNat k.bits))
def shrI (k : IntKind) (x y : Int) : Int := x.fdiv (2 ^ (min y.toNat k.bits))

inductive Ex where
  | normal
  | exit (id : Nat)
  | ret

section
variable {R : Type}

abbrev Kont (R : Type) := V → Upd → Option R

def intF (op : BinOp) (k : IntKind) (a b : Int) (K : Kont R) : Option R :=
  match op with
  | .add => K (roV (.int k) (k.wrap (a + b))) []
  | .sub => K (roV (.int k) (k.wrap (a - b))) []
  | .mul => K (roV (.int k) (k.wrap (a * b))) []
  | .quo => chk (ine b 0) (K (roV (.int k) (k.wrap (a.tdiv b))) [])
  | .rem => chk (ine b 0) (K (roV (.int k) (a.tmod b)) [])
  | .and => K (roV (.int k) (bitop .and k a b)) []
  | .or => K (roV (.int k) (bitop .or k a b)) []
  | .xor => K (roV (.int k) (bitop .xor k a b)) []
  | .andNot => K (roV (.int k) (bitop .andNot k a b)) []
  | .eql => K (roV .bool (ieq a b)) []
  | .neq => K (roV .bool (ine a b)) []
  | .lss => K (roV .bool (ilt a b)) []
  | .leq => K (roV .bool (ile a b)) []
  | .gtr => K (roV .bool (ilt b a)) []
  | .geq => K (roV .bool (ile b a)) []
  | _ => none

def pairV : V → Option (Int × Int)
  | .one (.ro (.pair (.int .i64) (.int .i64)) a) => some a
  | .agg [.ro (.int .i64) a, .ro (.int .i64) b] => some (a, b)
  | _ => none
def binF (Γ : Tab) (op : BinOp) (τ : TypeId) (x y : V) (K : Kont R) : Option R :=
  match x, y with
  | .one (.ro (.int k) a), .one (.ro (.int k') b) =>
    match op with
    | .shl => chk (ile 0 b) (K (roV (.int k) (shlI k a b)) [])
    | .shr => chk (ile 0 b) (K (roV (.int k) (shrI k a b)) [])
    | _ => cond (kb k k') (intF op k a b K) none
  | .one (.ro .bool a), .one (.ro .bool b) =>
    match Γ τ with
    | some ⟨.bool, _, _⟩ => match op with
      | .eql => K (roV .bool ((a : Bool) == b)) []
      | .neq => K (roV .bool (!((a : Bool) == b))) []
      | _ => none
    | _ => none
  | x, y => match pairV x, pairV y with
    | some a, some b => match Γ τ with
      | some ⟨.pair (.int .i64) (.int .i64), _, some (_, .int .i64, 2)⟩ => match op with
        | .eql => K (roV .bool (ieq a.1 b.1 && ieq a.2 b.2)) []
        | .neq => K (roV .bool (!(ieq a.1 b.1 && ieq a.2 b.2))) []
        | _ => none
      | _ => none
    | _, _ => none

def unF (op : UnOp) (x : V) (K : Kont R) : Option R :=
  match op, x with
  | .not, .one (.ro .bool b) => K (roV .bool (!(b : Bool))) []
  | .neg, .one (.ro (.int k) n) => K (roV (.int k) (k.wrap (0 - n))) []
  | _, _ => none

def pickF (c a b : V) (K : Kont R) : Option R :=
  match c with
  | .one (.ro .bool x) => br x (K a []) (K b [])
  | _ => none

def convF (Γ : Tab) (src dst : TypeId) (x : V) (K : Kont R) : Option R :=
  match Γ src, Γ dst, x with
  | some ⟨.int _, _, _⟩, some ⟨.int k, _, _⟩, .one (.ro (.int _) n) => K (roV (.int k) (k.wrap n)) []
  | _, _, _ => none

def extractF (i : Nat) (x : V) (K : Kont R) : Option R :=
  match x with
  | .tup vs => match vs[i]? with
    | some p => K (ofComp p) []
    | none => none
  | _ => none

def fieldF (Γ : Tab) (s : TypeId) (f : Nat) (x : V) (K : Kont R) : Option R :=
  match Γ s with
  | some ⟨t, fs, none⟩ => match fs[f]? with
    | some (o, u) => match x with
      | .agg cs => cond (Nat.beq cs.length t.n) (K (partCs u o cs) []) none
      | .one (.ro a y) => cond (tyb a t) (ob (proj u a o y) fun z => K (roV u z) []) none
      | _ => none
    | none => none
  | _ => none

def strIn (s : ByteArray) (i : Int) : Bool := ile 0 i && ilt i (s.size : Int)
def strAt (s : ByteArray) (i : Int) : Int := (((s[i.toNat]?).getD 0).toNat : Int)

def indexF (Γ : Tab) (s : TypeId) (x i : V) (K : Kont R) : Option R :=
  match Γ s, i with
  | some ⟨t, _, some (_, u, len)⟩, .one (.ro (.int _) n) =>
    cond t.agg (match x with
      | .agg cs => cond (both (Nat.beq cs.length t.n) (inbC len n)) (K (partCs u (n.toNat * u.n) cs) []) none
      | .one (.ro a y) => cond (both (tyb a t) (inbC len n)) (ob (proj u a (n.toNat * u.n) y) fun z => K (roV u z) []) none
      | _ => none) none
  | some ⟨.str, _, none⟩, .one (.ro (.int _) n) => match x with
    | .one (.ro .str b) => chk (strIn b n) (K (roV (.int .u8) (strAt b n)) [])
    | _ => none
  | _, _ => none

def faddrF (Γ : Tab) (s : TypeId) (f : Nat) (x : V) (K : Kont R) : Option R :=
  match Γ s with
  | some ⟨t, fs, none⟩ => match fs[f]? with
    | some (o, u) => cond (Nat.blt 0 u.n) (match x with
      | .one (.adr id off) => K (.one (.adr id (off + o))) []
      | .one (.ela id i sz off) => K (.one (.ela id i sz (off + o))) []
      | .one (.roa a y) => cond (tyb a t) (ob (proj u a o y) fun z => K (.one (.roa u z)) []) none
      | .one (.ro (.ptr a) y) => cond (tyb a t) (ob (proj u a o y) fun z => K (.one (.roa u z)) []) none
      | _ => none) none
    | none => none
  | _ => none

def iaddrF (Γ : Tab) (σ : Sto) (s : TypeId) (x i : V) (K : Kont R) : Option R :=
  match Γ s, i with
  | some ⟨t, _, some (e, u, len)⟩, .one (.ro (.int _) n) =>
    cond t.agg
      (match x with
      | .one (.adr id off) => cond (inbC len n) (K (.one (.adr id (off + n.toNat * u.n))) []) none
      | .one (.roa a y) => cond (both (tyb a t) (inbC len n)) (ob (proj u a (n.toNat * u.n) y) fun z => K (.one (.roa u z)) []) none
      | .one (.ela id i sz off) => cond (inbC len n) (K (.one (.ela id i sz (off + n.toNat * u.n))) []) none
      | _ => none)
      (match x with
      | .one (.ro (.list e' u') xs) => cond (both (Nat.beq e' e) (tyb u' u)) (chk (inb xs n) (K (.one (.roa u' (rd u' xs n))) [])) none
      | .one (.ref id) => match σ id with
        | some (.sl e' u' _ xs _ none) => cond (both (Nat.beq e' e) (tyb u' u)) (chk (inb xs n) (K (.one (.ela id n u.n 0)) [])) none
        | some (.sl e' u' .deep xs _ (some _)) => cond (both (Nat.beq e' e) (tyb u' u)) (chk (inb xs n) (K (.one (.ela id n u.n 0)) [])) none
        | _ => none
      | .one (.sub id _ lo hi) => match σ id with
        | some (.sl e' u' _ xs _ none) => cond (both (Nat.beq e' e) (tyb u' u)) (chk (ile 0 n && ilt n (hi - lo)) (K (.one (.ela id (lo + n) u.n 0)) [])) none
        | _ => none
      | .one (.el id j hv) => match σ id with
        | some (.sl _ (.list e' u') .deep xs hv' none) =>
          cond (both (both (Nat.beq e' e) (tyb u' u)) (both (Nat.beq hv hv') (Nat.beq u.n 1))) (chk (inb (rd (.list e' u') xs j) n) (K (.one (.ele id j n hv)) [])) none
        | _ => none
      | _ => none)
  | _, _ => none

def loadEl (u : Ty) (id : Id) (i : Int) (off : Nat) : PObj → Option V
  | .sl _ t m xs hv none =>
    match t, xs, m with
    | .list e a, xs, .deep => cond (both (Nat.beq off 0) (tyb u (.list e a))) (some (.one (.el id i hv))) none
    | t, xs, _ => ob (proj u t off (rd t xs i)) fun z => some (roV u z)
  | _ => none

def openF (new : Option Id) (t : Ty) (id : Id) (off : Nat) (a : Ty) (y : a.T) (K : Kont R) : Option R :=
  cond (Nat.beq (lists a) 0)
    (cond (Nat.ble (off + t.n) a.n) (K (partCs t off (mkOwn a y 0).1) ((id, none) :: ((mkOwn a y 0).2.1 ++ [(id, some (.box (mkOwn a y 0).1))]))) none)
    (match new with
    | some d => cond (both (both (Nat.beq off 0) (tyb a t)) (Nat.ble (lists a) 32))
      (K (ofCells a.agg (mkOwn a y d).1) ((id, none) :: ((mkOwn a y d).2.1 ++ [(id, some (.box (mkOwn a y d).1))]))) none
    | none => none)

def loadF (Γ : Tab) (σ : Sto) (new : Option Id) (s : TypeId) (x : V) (K : Kont R) : Option R :=
  match Γ s with
  | some d => match x with
    | .one (.adr id off) => match σ id with
      | some (.box cs) => cond (Nat.ble (off + d.ty.n) cs.length) (K (partCs d.ty off cs) []) none
      | some (.mbox a y) => openF new d.ty id off a y K
      | _ => none
    | .one (.sadr f caps) => cond (both (Nat.beq d.ty.n 1) (no d.ty.agg)) (K (.one (.clo f caps)) []) none
    | .one (.ro (.ptr t) y) => ob (proj d.ty t 0 y) fun z => K (roV d.ty z) []
    | .one (.roa a y) => cond (tyb a d.ty) (K (roV a y) []) none
    | .one (.ela id i _ off) => match σ id with
      | some o => ob (loadEl d.ty id i off o) fun v => K v []
      | none => none
    | .one (.ele id j i hv) => match σ id with
      | some (.sl _ (.list e t) .deep xs hv' none) =>
        cond (both (Nat.beq hv hv') (tyb t d.ty)) (cond (Nat.beq t.n 1) (K (roV t (rd t (rd (.list e t) xs j) i)) []) none) none
      | _ => none
    | _ => none
  | none => none

def roVal (t : Ty) : V → Option t.T
  | .one (.ro a y) => castT (a := a) t y
  | .one .nilsl => match t with
    | .list _ _ => some []
    | _ => none
  | _ => none
def storeEl (σ : Sto) (u : Ty) (id : Id) (i : Int) (v : V) (K : Kont R) : Option R :=
  match σ id with
  | some (.sl e (.list a b) .deep xs hv hole) => match v with
    | .one (.ref id2) => match σ id2 with
      | some (.sl a' b' .own ys _ none) =>
        if h : tyb (Ty.list a' b') (Ty.list a b) = true then
          chk (match hole with
            | none => true
            | some j => ieq i j)
            (cond (both (Nat.beq u.n 1) (both (no (Nat.beq id id2)) (no b.isList)))
              (K (.one .dead) [(id2, none), (id, some (.sl e (.list a b) .deep (tSet xs i (tyb_eq h ▸ ys)) (hv + 1) none))]) none)
        else none
      | _ => none
    | _ => none
  | some (.sl e t .own xs hv none) => cond (Nat.beq u.n t.n) (ob (cond t.flat (asT σ t v) (roVal t v)) fun y => K (.one .dead) [(id, some (.sl e t .own (tSet xs i y) hv none))])
      (cond t.flat (ob (asT σ u v) fun y => ob (putAt u t 0 (rd t xs i) y) fun z => K (.one .dead) [(id, some (.sl e t .own (tSet xs i z) hv none))]) none)
  | _ => none

def storePart (σ : Sto) (u : Ty) (id : Id) (i : Int) (off : Nat) (v : V) (K : Kont R) : Option R :=
  match σ id with
  | some (.sl e t .own xs hv none) => cond t.flat (ob (asT σ u v) fun y => ob (putAt u t off (rd t xs i) y) fun z => K (.one .dead) [(id, some (.sl e t .own (tSet xs i z) hv none))]) none
  | _ => none

def storeF (Γ : Tab) (σ : Sto) (s : TypeId) (x v : V) (K : Kont R) : Option R :=
  match Γ s with
  | some d => match x with
    | .one (.adr id off) => match σ id, v.cells with
      | some (.box cs), some us =>
        cond (both (Nat.beq us.length d.ty.n) (Nat.ble (off + us.length) cs.length))
          (K (.one .dead) [(id, some (.box (cs.take off ++ us ++ cs.drop (off + us.length))))]) none
      | some (.mbox a _), some us => cond (both (Nat.beq off 0) (both (tyb a d.ty) (Nat.beq us.length a.n))) (K (.one .dead) [(id, some (.box us))]) none
      | _, _ => none
    | .one (.ela id i _ 0) => storeEl σ d.ty id i v K
    | .one (.ela id i _ off) => storePart σ d.ty id i off v K
    | .one (.ele id j i hv) => match σ id with
      | some (.sl e (.list a b) .deep xs hv' none) =>
        cond (both (both (Nat.beq hv hv') b.flat) (both (Nat.beq d.ty.n 1) (Nat.beq b.n 1)))
          (ob (asT σ b v) fun y => K (.one .dead) [(id, some (.sl e (.list a b) .deep (tSet xs j (tSet (rd (.list a b) xs j) i y)) hv' none))]) none
      | _ => none
    | _ => none
  | none => none

def boxF (new : Option Id) (cs : Option (List C)) (K : Kont R) : Option R :=
  match new, cs with
  | some id, some cs => K (.one (.adr id 0)) [(id, some (.box cs))]
  | _, _ => none

def partsOk : Nat → List (Nat × Operand) → Bool
  | _, [] => true
  | i, (j, _) :: r => both (Nat.beq i j) (partsOk (i + 1) r)

def litRo (σ : Sto) (t : Ty) : List V → Option (List t.T)
  | [] => some []
  | v :: r => ob (asT σ t v) fun x => ob (litRo σ t r) fun xs => some (x :: xs)

def litOwn (σ : Sto) (e : TypeId) (t : Ty) : List V → Option (List (List t.T) × List Id)
  | [] => some ([], [])
  | .one (.ref id) :: r => match σ id with
    | some (.sl e' t' .own xs _ none) => ob (castT (a := .list e' t') (.list e t) xs) fun x => ob (litOwn σ e t r) fun p =>
      cond (hasId p.2 id) none (some (x :: p.1, id :: p.2))
    | _ => none
  | _ => none

def capIds : List Cap → List Id
  | [] => []
  | .id i :: r => i :: capIds r
  | _ :: r => capIds r
def C.ids : C → List Id
  | .ref id => [id]
  | .sub id _ _ _ => [id]
  | .el id _ _ => [id]
  | .adr id _ => [id]
  | .ela id _ _ _ => [id]
  | .ele id _ _ _ => [id]
  | .clo _ caps => capIds caps
  | .sadr _ caps => capIds caps
  | .mref id => [id]
  | .mad id _ => [id]
  | _ => []
def csIds : List C → List Id
  | [] => []
  | c :: r => c.ids ++ csIds r
def V.ids : V → List Id
  | .one c => c.ids
  | .agg cs => csIds cs
  | .tup vs => vs.flatMap fun p => csIds p.2
def valIds : List V → List Id
  | [] => []
  | v :: r => v.ids ++ valIds r

def nub (l : List Id) : List Id → List Id
  | [] => []
  | i :: r => cond (cond (hasId r i) true (hasId l i)) (nub l r) (i :: nub l r)

def frzU (σ : Sto) : List Id → Option Upd
  | [] => some []
  | i :: r => match σ i with
    | some (.sl e t _ xs hv none) => ob (frzU σ r) fun u => some ((i, some (.sl e t .fro xs hv none)) :: u)
    | _ => none

def litF (Γ : Tab) (σ : Sto) (new : Option Id) (s : TypeId) (len : Nat) (parts : List (Nat × V)) (K : Kont R) : Option R :=
  match new, Γ s with
  | some id, some ⟨.list e t, _, _⟩ =>
    cond (both (Nat.beq parts.length len) (Nat.ble len 1000))
      (match t with
      | .list a b =>
        match litOwn σ a b (parts.map (·.2)) with
        | some (xs, ids) => K (.one (.ref id)) ((ids.map fun i => (i, none)) ++ [(id, some (.sl e (.list a b) .deep xs 0 none))])
        | none => ob (frzU σ (nub [] (valIds (parts.map (·.2))))) fun u => ob (litRo (σ.only (nub [] (valIds (parts.map (·.2))))) (.list a b) (parts.map (·.2))) fun xs =>
          K (.one (.ref id)) (u ++ [(id, some (.sl e (.list a b) .own xs 0 none))])
      | t => cond t.flat (ob (litRo σ t (parts.map (·.2))) fun xs => K (.one (.ref id)) [(id, some (.sl e t .own xs 0 none))])
          (ob (litRo (fun _ => none) t (parts.map (·.2))) fun xs => K (.one (.ref id)) [(id, some (.sl e t .own xs 0 none))]))
      none
  | _, _ => none

def hasI (xs : List Int) (x : Int) : Bool := decide (x ∈ xs)
def wfI (k : IntKind) (x : Int) : Bool := ieq (k.wrap x) x
def mkMapF (Γ : Tab) (new : Option Id) (s : TypeId) (K : Kont R) : Option R :=
  match new, Γ s with
  | some id, some ⟨.sptr k e, _, _⟩ => match Γ k with
    | some ⟨.int κ, _, _⟩ => K (.one (.mref id)) [(id, some (.mp k e κ []))]
    | _ => none
  | _, _ => none
def sameMap (a b a' b' : TypeId) (κ κ' : IntKind) : Bool := both (both (Nat.beq a a') (Nat.beq b b')) (kb κ κ')
def mapPutF (Γ : Tab) (σ : Sto) (s : TypeId) (m k v : V) (K : Kont R) : Option R :=
  match Γ s, m, k, v with
  | some ⟨.sptr a b, _, _⟩, .one (.mref id), .one (.ro (.int κ) x), .one (.ro .bool y) => match σ id with
    | some (.mp a' b' κ' xs) => cond (both (sameMap a b a' b' κ κ') (y : Bool)) (chk (wfI κ x && room (α := Int) (β := Int) xs [x]) (K (.one .dead) [(id, some (.mp a' b' κ' (tApp xs [(x : Int)])))])) none
    | _ => none
  | _, _, _, _ => none
def mapGetF (Γ : Tab) (σ : Sto) (s : TypeId) (m k : V) (K : Kont R) : Option R :=
  match Γ s, m, k with
  | some ⟨.sptr a b, _, _⟩, .one (.mref id), .one (.ro (.int κ) x) => match σ id with
    | some (.mp a' b' κ' xs) => cond (sameMap a b a' b' κ κ') (chk (wfI κ x) (K (roV .bool (hasI xs x)) [])) none
    | _ => none
  | _, _, _ => none

def allI : Ty → Bool
  | .int k => kb k .i64
  | .pair a b => both (allI a) (allI b)
  | _ => false
def intsOf : List C → Option (List Int)
  | [] => some []
  | .ro (.int .i64) x :: r => ob (intsOf r) fun ys => some ((x : Int) :: ys)
  | _ => none
def allocM (Γ : Tab) (new : Option Id) (s : TypeId) (K : Kont R) : Option R :=
  match Γ s with
  | some d => cond (both (Nat.ble 16 d.ty.n) (allI d.ty))
      (match new with
      | some id => K (.one (.adr id 0)) [(id, some (.mat (tRep (d.ty.n : Int) (0 : Int))))]
      | none => none)
      (boxF new (some (zeroCs d.ty)) K)
  | none => none
def matAddr (Γ : Tab) (s : TypeId) (id : Id) (j : Int) (i : V) (K : Kont R) : Option R :=
  match Γ s, i with
  | some ⟨t, _, some (_, u, len)⟩, .one (.ro (.int _) n) => cond t.agg (chk (ile 0 n && ilt n (len : Int)) (K (.one (.mad id (j + n * (u.n : Int)))) [])) none
  | _, _ => none
def iaddrM (Γ : Tab) (σ : Sto) (s : TypeId) (x i : V) (K : Kont R) : Option R :=
  match x with
  | .one (.mad id j) => matAddr Γ s id j i K
  | .one (.adr id off) => match σ id with
    | some (.mat _) => matAddr Γ s id (off : Int) i K
    | _ => iaddrF Γ σ s (.one (.adr id off)) i K
  | x => iaddrF Γ σ s x i K
def matLoad (Γ : Tab) (σ : Sto) (s : TypeId) (id : Id) (i : Int) (K : Kont R) : Option R :=
  match Γ s, σ id with
  | some ⟨.int .i64, _, _⟩, some (.mat xs) => chk (inb xs i) (K (roV (.int .i64) (rd (.int .i64) xs i)) [])
  | _, _ => none
def loadM (Γ : Tab) (σ : Sto) (new : Option Id) (s : TypeId) (x : V) (K : Kont R) : Option R :=
  match x with
  | .one (.mad id i) => matLoad Γ σ s id i K
  | x => loadF Γ σ new s x K
def matPut (Γ : Tab) (σ : Sto) (s : TypeId) (id : Id) (i : Int) (v : V) (K : Kont R) : Option R :=
  match Γ s, σ id with
  | some ⟨.int .i64, _, _⟩, some (.mat xs) => ob (asT σ (.int .i64) v) fun y => chk (inb xs i) (K (.one .dead) [(id, some (.mat (tSet xs i (y : Int))))])
  | _, _ => none
def matFill (Γ : Tab) (s : TypeId) (id : Id) (off : Nat) (xs : List Int) (v : V) (K : Kont R) : Option R :=
  match Γ s, v.cells with
  | some d, some us => cond (both (Nat.beq off 0) (Nat.beq us.length d.ty.n)) (ob (intsOf us) fun ys => chk (ieq (tLen xs) (us.length : Int)) (K (.one .dead) [(id, some (.mat ys))])) none
  | _, _ => none
def storeM (Γ : Tab) (σ : Sto) (s : TypeId) (x v : V) (K : Kont R) : Option R :=
  match x with
  | .one (.mad id i) => matPut Γ σ s id i v K
  | .one (.adr id off) => match σ id with
    | some (.mat xs) => matFill Γ s id off xs v K
    | _ => storeF Γ σ s (.one (.adr id off)) v K
  | x => storeF Γ σ s x v K

def setCs (cs : List C) (o : Nat) (us : List C) : List C := cs.take o ++ us ++ cs.drop (o + us.length)

def fillCs (place : Nat → Option (Nat × Nat)) : List (Nat × V) → List C → Option (List C)
  | [], cs => some cs
  | (i, v) :: r, cs => match place i, v.cells with
    | some (o, n), some us => cond (both (Nat.beq us.length n) (Nat.ble (o + n) cs.length)) (fillCs place r (setCs cs o us)) none
    | _, _ => none

def buildF (Γ : Tab) (s : TypeId) (parts : List (Nat × V)) (K : Kont R) : Option R :=
  match Γ s with
  | some ⟨t, fs, none⟩ => cond t.agg (ob (fillCs (fun i => (fs[i]?).map fun p => (p.1, p.2.n)) parts (zeroCs t)) fun cs => K (.agg cs) []) none
  | some ⟨t, _, some (_, u, _)⟩ => cond t.agg (ob (fillCs (fun i => some (i * u.n, u.n)) parts (zeroCs t)) fun cs => K (.agg cs) []) none
  | none => none

def makeF (Γ : Tab) (new : Option Id) (s : TypeId) (l c : V) (K : Kont R) : Option R :=
  match new, Γ s, l, c with
  | some id, some ⟨.list e t, _, _⟩, .one (.ro (.int _) n), .one (.ro (.int _) m) =>
    cond (cond t.flat true t.isList) (chk (ile 0 n && ile n m && fits m)
      (K (.one (.ref id)) [(id, some (.sl e t (cond t.isList .deep .own) (tRep n t.dflt) 0 none))])) none
  | _, _, _, _ => none

def lenV (Γ : Tab) (σ : Sto) (s : TypeId) : V → Option Int
  | .one (.ro (.list _ t) xs) => some (tLen xs)
  | .one .nilsl => match Γ s with
    | some ⟨.list _ _, _, _⟩ => some 0
    | _ => none
  | .one (.ref id) => match σ id with
    | some (.sl _ _ _ xs _ none) => some (tLen xs)
    | _ => none
  | .one (.sub id _ lo hi) => match σ id with
    | some (.sl _ _ _ _ _ none) => some (hi - lo)
    | _ => none
  | .one (.el id i hv) => match σ id with
    | some (.sl _ (.list e a) .deep xs hv' none) => cond (Nat.beq hv hv') (some (tLen (rd (.list e a) xs i))) none
    | _ => none
  | _ => none

def isListOf (Γ : Tab) (s : TypeId) (e : TypeId) (t : Ty) : Bool :=
  match Γ s with
  | some ⟨.list e' t', _, _⟩ => both (Nat.beq e' e) (tyb t' t)
  | _ => false

def isList (Γ : Tab) (s : TypeId) : Bool :=
  match Γ s with
  | some ⟨.list _ _, _, _⟩ => true
  | _ => false

def lenF (Γ : Tab) (σ : Sto) (s : TypeId) (x : V) (K : Kont R) : Option R :=
  match Γ s, x with
  | some ⟨.str, _, _⟩, .one (.ro .str b) => K (roV (.int .i64) ((b : ByteArray).size : Int)) []
  | _, x => cond (isList Γ s) (ob (lenV Γ σ s x) fun n => K (roV (.int .i64) n) []) none

def boundV (dflt : Int) : Option V → Option Int
  | none => some dflt
  | some (.one (.ro (.int _) n)) => some n
  | _ => none

def sliceF (Γ : Tab) (σ : Sto) (s : TypeId) (x : V) (lo hi mx : Option V) (K : Kont R) : Option R :=
  match Γ s, mx with
  | some ⟨.list e t, _, _⟩, none => match x with
    | .one (.ro (.list e' t') xs) => cond (tyb t' t) (ob (boundV 0 lo) fun l => ob (boundV (tLen xs) hi) fun h =>
      chk (ile 0 l && ile l h && ile h (tLen xs)) (K (roV (.list e' t') (tCut xs l h)) [])) none
    | .one (.ref id) => match σ id with
      | some (.sl e' t' _ xs _ none) => ob (boundV 0 lo) fun l => ob (boundV (tLen xs) hi) fun h =>
        cond (both (Nat.beq e' e) (tyb t' t)) (chk (ile 0 l && ile l h && ile h (tLen xs)) (K (.one (.sub id t'.n l h)) [])) none
      | _ => none
    | .one (.sub id _ l0 h0) => match σ id with
      | some (.sl e' t' _ _ _ none) => ob (boundV 0 lo) fun l => ob (boundV (h0 - l0) hi) fun h =>
        cond (both (Nat.beq e' e) (tyb t' t)) (chk (ile 0 l && ile l h && ile h (h0 - l0)) (K (.one (.sub id t'.n (l0 + l) (l0 + h))) [])) none
      | _ => none
    | _ => none
  | _, _ => none

def nilMode (σ : Sto) (t : Ty) (y : V) : Mo :=
  cond t.isList (match y with
    | .one (.ref id) => match σ id with
      | some (.sl _ _ .own _ _ _) => .own
      | _ => .deep
    | .one (.sub id _ _ _) => match σ id with
      | some (.sl _ _ .own _ _ _) => .own
      | _ => .deep
    | .one (.ro _ _) => .own
    | _ => .deep) .own
def ownSrc (σ : Sto) (y : V) : Bool :=
  match y with
  | .one (.ref id) => match σ id with
    | some (.sl _ _ .own _ _ _) => true
    | _ => false
  | .one (.sub id _ _ _) => match σ id with
    | some (.sl _ _ .own _ _ _) => true
    | _ => false
  | .one (.ro _ _) => true
  | _ => false

def appDst (Γ : Tab) (σ : Sto) (s : TypeId) (x y : V) : Option (Σ p : TypeId × Ty, List p.2.T × Mo × Upd) :=
  match x with
  | .one .nilsl => match Γ s with
    | some ⟨.list e t, _, _⟩ => some ⟨(e, t), [], nilMode σ t y, []⟩
    | _ => none
  | .one (.ref id) => match σ id with
    | some (.sl e t .own xs _ none) => some ⟨(e, t), xs, .own, [(id, none)]⟩
    | some (.sl e t .deep xs _ none) => cond (ownSrc σ y)
      (match xs with
      | [] => some ⟨(e, t), [], .own, [(id, none)]⟩
      | _ => none)
      (some ⟨(e, t), xs, .deep, [(id, none)]⟩)
    | _ => none
  | .one (.sub id _ lo hi) => match σ id with
    | some (.sl e t .own xs _ none) => some ⟨(e, t), tCut xs lo hi, .own, [(id, none)]⟩
    | _ => none
  | .one (.el id i hv) => match σ id with
    | some (.sl e (.list e' t') .deep xs hv' none) =>
      cond (both (Nat.beq hv hv') t'.flat) (some ⟨(e', t'), rd (.list e' t') xs i, .own, [(id, some (.sl e (.list e' t') .deep xs hv' (some i)))]⟩) none
    | _ => none
  | _ => none

def appSrc (σ : Sto) (e : TypeId) (t : Ty) (m : Mo) (x : V) : Option (List t.T × Upd) :=
  match m with
  | .deep => match x with
    | .one (.ref id) => match σ id with
      | some (.sl e' t' .deep xs _ none) => ob (castT (a := .list e' t') (.list e t) xs) fun ys => some (ys, [(id, none)])
      | _ => none
    | .one .nilsl => some ([], [])
    | _ => none
  | _ => cond t.flat (ob (asT σ (.list e t) x) fun ys => some (ys, []))
    (match x with
    | .one (.ro a y) => ob (castT (a := a) (.list e t) y) fun ys => some (ys, [])
    | .one .nilsl => some ([], [])
    | .one (.ref id) => match σ id with
      | some (.sl e' t' .own xs _ none) => ob (castT (a := .list e' t') (.list e t) xs) fun ys => some (ys, [])
      | _ => none
    | .one (.sub id _ lo hi) => match σ id with
      | some (.sl e' t' .own xs _ none) => ob (castT (a := .list e' t') (.list e t) (tCut (α := t'.T) xs lo hi)) fun ys => some (ys, [])
      | _ => none
    | _ => none)

def appF (Γ : Tab) (σ : Sto) (new : Option Id) (s s' : TypeId) (x y : V) (K : Kont R) : Option R :=
  match new, appDst Γ σ s x y with
  | some id, some ⟨(e, t), xs, m, u⟩ => match appSrc (σ.puts (u.map fun p => (p.1, none))) e t m y with
    | some (ys, u') => cond (both (both (isListOf Γ s e t) (isList Γ s')) (cond t.flat true t.isList)) (chk (room xs ys)
        (K (.one (.ref id)) (u ++ u' ++ [(id, some (.sl e t m (tApp xs ys) 0 none))]))) none
    | none => none
  | _, _ => none

def tPut {α : Type} (xs : List α) (lo : Int) (ys : List α) : List α := xs.take lo.toNat ++ ys ++ xs.drop (lo.toNat + ys.length)
def tMin (a b : Int) : Int := cond (ile a b) a b
def copyTo (Γ : Tab) (σ : Sto) (s s' : TypeId) (id : Id) (e : TypeId) (t : Ty) (xs : List t.T) (hv : Nat) (lo n : Int) (y : V) (K : Kont R) : Option R :=
  cond (both (both (isListOf Γ s e t) (isList Γ s')) (both t.flat (Nat.beq t.n 1)))
    (ob (asT σ (.list e t) y) fun ys => K (roV (.int .i64) (tMin n (tLen (α := t.T) ys))) [(id, some (.sl e t .own (tPut xs lo (tCut (α := t.T) ys 0 (tMin n (tLen (α := t.T) ys)))) hv none))]) none
def copyF (Γ : Tab) (σ : Sto) (s s' : TypeId) (x y : V) (K : Kont R) : Option R :=
  match x with
  | .one (.ref id) => match σ id with
    | some (.sl e t .own xs hv none) => copyTo Γ σ s s' id e t xs hv 0 (tLen xs) y K
    | _ => none
  | .one (.sub id _ lo hi) => match σ id with
    | some (.sl e t .own xs hv none) => copyTo Γ σ s s' id e t xs hv lo (hi - lo) y K
    | _ => none
  | _ => none

def clearF (Γ : Tab) (σ : Sto) (s : TypeId) (x : V) (K : Kont R) : Option R :=
  match x with
  | .one (.sub id _ lo hi) => match σ id with
    | some (.sl e t .own xs hv none) => cond (both (isListOf Γ s e t) (cond t.flat true t.isList)) (K (.tup []) [(id, some (.sl e t .own (tPut xs lo (tRep (hi - lo) t.dflt)) hv none))]) none
    | _ => none
  | _ => none

def maxF (x y : V) (K : Kont R) : Option R :=
  match x, y with
  | .one (.ro (.int k) a), .one (.ro (.int k') b) => cond (kb k k') (K (roV (.int k) (if (b : Int) > a then b else a)) []) none
  | _, _ => none
def minF (x y : V) (K : Kont R) : Option R :=
  match x, y with
  | .one (.ro (.int k) a), .one (.ro (.int k') b) => cond (kb k k') (K (roV (.int k) (if (b : Int) < a then b else a)) []) none
  | _, _ => none

def refC : C → List Id
  | .ref id => [id]
  | .sub id _ _ _ => [id]
  | _ => []
def capCs : List C → List C
  | [.clo f caps] => caps.map (Cap.c f caps)
  | _ => []
def refs (σ : Sto) : Ty → List C → List Id
  | .pair a b, cs => refs σ a (cs.take a.n) ++ refs σ b (cs.drop a.n)
  | .list _ _, [c] => refC c
  | .rows _ _, [c] => refC c
  | .mptr t, [.adr id _] => id :: (match σ id with
    | some (.box cs) => refs σ t cs
    | _ => [])
  | .kclo _ t, cs => refs σ t (capCs cs)
  | _, _ => []
def ownIds (σ : Sto) : List (Mode × Ty) → List V → List Id
  | [], _ => []
  | _, [] => []
  | (.ro, _) :: ps, _ :: vs => ownIds σ ps vs
  | (_, t) :: ps, v :: vs => refs σ t (v.cells.getD []) ++ ownIds σ ps vs

def nodupIds : List Id → Bool
  | [] => true
  | i :: r => both (no (hasId r i)) (nodupIds r)

def ownC (σ : Sto) (sb : Bool) (t : Ty) : C → Option t.T
  | .ro a x => cond a.flat (castT t x) none
  | .nilsl => match t with
    | .list _ _ => some []
    | _ => none
  | .ref id => match σ id with
    | some (.sl e a m xs _ none) => cond (mob m (cond a.isList .deep .own)) (castT (a := .list e a) t xs) none
    | _ => none
  | .sub id _ lo hi => match σ id with
    | some (.sl e a .own xs _ none) => cond (both sb (no a.isList)) (castT (a := .list e a) t (tCut xs lo hi)) none
    | _ => none
  | _ => none
def ownRows (σ : Sto) (sb : Bool) (e : TypeId) (t : Ty) : C → Option (List t.T)
  | .nilsl => some []
  | .ref id => match σ id with
    | some (.sl e' a .own xs _ none) => castT (a := .list e' a) (.list e t) xs
    | _ => none
  | .sub id _ lo hi => match σ id with
    | some (.sl e' a .own xs _ none) => cond sb (castT (a := .list e' a) (.list e t) (tCut xs lo hi)) none
    | _ => none
  | _ => none
def ownPtr (σ' : Sto) (t : Ty) : C → Option t.T
  | .adr id off => asPtr σ' t (.adr id off)
  | .ro a x => castT (a := a) (.ptr t) x
  | _ => none
def ownCs (σ σ' : Sto) (sb : Bool) : (t : Ty) → List C → Option t.T
  | .unit, [] => some ()
  | .unit, _ :: _ => none
  | .pair a b, cs => ob (ownCs σ σ' sb a (cs.take a.n)) fun x => ob (ownCs σ σ' sb b (cs.drop a.n)) fun y => some (x, y)
  | .rows e t, [c] => ownRows σ sb e t c
  | .ptr t, [c] => ownPtr σ' t c
  | .rol e t, [c] => asC σ' (.list e t) c
  | .mptr t, [.adr id off] => cond (Nat.beq off 0) (match σ id with
    | some (.box cs) => cond (Nat.beq cs.length t.n) (ownCs σ σ' true t cs) none
    | some (.mbox a x) => castT (a := a) t x
    | _ => none) none
  | .kclo f t, [.clo f' caps] => cond (both (Nat.beq f f') (Nat.beq caps.length t.n)) (ownCs σ σ' sb t (caps.map (Cap.c f' caps))) none
  | t, [c] => ownC σ sb t c
  | _, _ => none

def roC (t : Ty) : C → Option t.T
  | .ro a x => castT t x
  | .nilsl => match t with
    | .list _ _ => some []
    | _ => none
  | _ => none
def roCs : (t : Ty) → List C → Option t.T
  | .unit, [] => some ()
  | .unit, _ :: _ => none
  | .pair a b, cs => ob (roCs a (cs.take a.n)) fun x => ob (roCs b (cs.drop a.n)) fun y => some (x, y)
  | t, [c] => roC t c
  | _, _ => none

def asSelf (σ' : Sto) (f : FuncId) (k : Nat) : C → Option Unit
  | .sadr f' _ => cond (Nat.beq f f') (some ()) none
  | .adr id 0 => match σ' id with
    | some (.box [.clo f' _]) => cond (Nat.beq f f') (some ()) none
    | _ => none
  | .ro (.sptr f' k') _ => cond (both (Nat.beq f f') (Nat.beq k k')) (some ()) none
  | _ => none
def argF (G : GTab) (σ σ' : Sto) (m : Mode) (t : Ty) (v : V) : Option t.T :=
  match m with
  | .ro => match t, v with
    | .fn1 a r, .one c => asFn G σ' (.fn1 a r) c
    | .fn2 a b r, .one c => asFn G σ' (.fn2 a b r) c
    | .ptr t, .one c => asPtr σ' t c
    | .sptr f k, .one c => asSelf σ' f k c
    | t, v => asT σ' t v
  | _ => ob v.cells fun cs => cond (both (agb t.agg v.isAgg) t.para) (ownCs σ σ' false t cs) none

def argsF (G : GTab) (σ σ' : Sto) : (ps : List (Mode × Ty)) → List V → Option (argsT ps)
  | [], [] => some ()
  | (m, t) :: ps, v :: vs => ob (argF G σ σ' m t v) fun x => ob (argsF G σ σ' ps vs) fun y => some (x, y)
  | _, _ => none

def mutCs (σ : Sto) : (t : Ty) → List C → t.T → Upd
  | .pair a b, cs, x => mutCs σ a (cs.take a.n) x.1 ++ mutCs σ b (cs.drop a.n) x.2
  | .list e t, [.ref id], x => match σ id with
    | some (.sl _ _ _ _ hv _) => [(id, some (.sl e t (cond t.isList .deep .own) x (hv + 1) none))]
    | _ => []
  | .rows e t, [.ref id], x => match σ id with
    | some (.sl _ _ _ _ hv _) => [(id, some (.sl e t .own x (hv + 1) none))]
    | _ => []
  | .mptr t, [.adr id _], x => [(id, some (.mbox t x))]
  | .kclo _ t, cs, x => mutCs σ t (capCs cs) x
  | _, _, _ => []

def mutF (σ : Sto) : (ps : List (Mode × Ty)) → List V → mutT ps → Upd
  | [], _, _ => []
  | (.mut, t) :: ps, v :: vs, x => mutCs σ t (v.cells.getD []) x.1 ++ mutF σ ps vs x.2
  | (.mut, _) :: ps, [], x => mutF σ ps [] x.2
  | (.ro, _) :: ps, vs, x => mutF σ ps vs.tail x
  | (.own, _) :: ps, vs, x => mutF σ ps vs.tail x

def resF : (rs : List (Bool × Ty)) → resT rs → (d : Nat) → List (Bool × List C) × Upd
  | [], _, _ => ([], [])
  | (true, t) :: rs, x, d =>
    let p := mkOwn t x.1 d
    let q := resF rs x.2 p.2.2
    ((t.agg, p.1) :: q.1, p.2.1 ++ q.2)
  | (false, t) :: rs, x, d =>
    let q := resF rs x.2 d
    ((t.agg, split t x.1) :: q.1, q.2)

def resV : List (Bool × List C) → V
  | [p] => ofComp p
  | l => .tup l

def lends : List (Bool × Ty) → Bool
  | [] => false
  | (o, t) :: r => cond (cond o (no t.owns) (no t.flat)) true (lends r)
def lenC {α : Type} : List α → Nat
  | [] => 0
  | _ :: l => Nat.succ (lenC l)

def dstRoom : Option Nat → Nat
  | some _ => 32
  | none => 0

def lendsP : List (Mode × Ty) → Bool
  | [] => false
  | (.mut, t) :: r => cond (no t.hands) true (lendsP r)
  | _ :: r => lendsP r
def lendsF (ps : List (Mode × Ty)) (rs : List (Bool × Ty)) : Bool := cond (lends rs) true (lendsP ps)
def rowsC (σ : Sto) : C → Upd
  | .ref id => match σ id with
    | some (.sl e (.list a b) .deep xs hv none) => [(id, some (.sl e (.list a b) .own xs hv none))]
    | _ => []
  | _ => []
def rowsU (σ : Sto) : List (Mode × Ty) → List V → Upd
  | (.mut, .rows _ _) :: ps, .one c :: vs => rowsC σ c ++ rowsU σ ps vs
  | (.own, .rows _ _) :: ps, .one c :: vs => rowsC σ c ++ rowsU σ ps vs
  | _ :: ps, _ :: vs => rowsU σ ps vs
  | _, _ => []

def callF1 (G : GTab) (σ : Sto) (dst : Option Nat) (F : FSum) (vs : List V) (K : Kont R) : Option R :=
    let ids := ownIds σ F.ps vs
    let fz := cond (lendsF F.ps F.rs) (nub ids (valIds vs)) []
    cond (nodupIds ids)
      (ob (frzU σ fz) fun u => ob (argsF G σ (cond (lendsF F.ps F.rs) (σ.only fz) (σ.puts (ids.map fun i => (i, none)))) F.ps vs) fun a =>
        (F.f a).bind fun p =>
          let q := resF F.rs p.1 (32 * (dst.getD 0 + 1))
          cond (Nat.ble (lenC q.2) (dstRoom dst))
            (K (resV q.1) (u ++ (ids.map fun i => (i, none)) ++ mutF σ F.ps vs p.2 ++ q.2)) none)
      none
def callF0 (G : GTab) (σ : Sto) (dst : Option Nat) (f : FuncId) (vs : List V) (K : Kont R) : Option R :=
  match G f with
  | some F => cond (nodupIds ((rowsU σ F.ps vs).map (·.1))) (callF1 G (σ.puts (rowsU σ F.ps vs)) dst F vs fun v u => K v (rowsU σ F.ps vs ++ u)) none
  | none => none

def hasEl : List (Mode × Ty) → List V → Bool
  | (.mut, _) :: _, .one (.el _ _ _) :: _ => true
  | _ :: ps, _ :: vs => hasEl ps vs
  | _, _ => false
def elAt : List (Mode × Ty) → List V → Option (Id × Int × Nat)
  | (.mut, _) :: _, .one (.el id i hv) :: _ => some (id, i, hv)
  | _ :: ps, _ :: vs => elAt ps vs
  | _, _ => none
def rowArgs (a : TypeId) (b : Ty) (row : List b.T) : (ps : List (Mode × Ty)) → List V → Bool → Option (argsT ps)
  | [], [], got => cond got (some ()) none
  | (.ro, t) :: ps, .one (.ro c x) :: vs, got => ob (castT (a := c) t x) fun y => ob (rowArgs a b row ps vs got) fun z => some (y, z)
  | (.mut, t) :: ps, .one (.el _ _ _) :: vs, false => ob (castT (a := .list a b) t row) fun y => ob (rowArgs a b row ps vs true) fun z => some (y, z)
  | _, _, _ => none
def rowMut (a : TypeId) (b : Ty) : (ps : List (Mode × Ty)) → mutT ps → Option (List b.T)
  | [], _ => none
  | (.ro, _) :: ps, y => rowMut a b ps y
  | (.own, _) :: ps, y => rowMut a b ps y
  | (.mut, t) :: _, y => castT (a := t) (.list a b) y.1
def flatR : List (Bool × Ty) → Bool
  | [] => true
  | p :: r => both p.2.flat (flatR r)
def rowF (σ : Sto) (F : FSum) (vs : List V) (K : Kont R) : Option R :=
  match elAt F.ps vs with
  | some (id, i, hv) => match σ id with
    | some (.sl e (.list a b) .deep xs hv' none) => cond (both (Nat.beq hv hv') (both b.flat (flatR F.rs)))
        (ob (rowArgs a b (rd (.list a b) xs i) F.ps vs false) fun x => (F.f x).bind fun p => ob (rowMut a b F.ps p.2) fun y =>
          K (resV (resF F.rs p.1 0).1) [(id, some (.sl e (.list a b) .deep (tSet xs i y) hv none))]) none
    | _ => none
  | none => none
def callF (G : GTab) (σ : Sto) (dst : Option Nat) (f : FuncId) (vs : List V) (K : Kont R) : Option R :=
  match G f with
  | some F => cond (hasEl F.ps vs) (rowF σ F vs K) (callF0 G σ dst f vs K)
  | none => none

def callS (G : GTab) (σ : Sto) (dst : Option Nat) (f : FuncId) (vs : List V) (K : Kont R) : Option R :=
  match Gn G f with
  | some _ => callF G σ dst f vs K
  | none => none

def capsEq : List Cap → List Cap → Bool
  | [], [] => true
  | .id i :: r, .id j :: l => both (Nat.beq i j) (capsEq r l)
  | _, _ => false
def selfCap (σ : Sto) (f : FuncId) (caps : List Cap) : Cap → Bool
  | .me => true
  | .id j => match σ j with
    | some (.box [.clo f' caps']) => both (Nat.beq f f') (capsEq caps caps')
    | _ => false
  | _ => false
def selfGo (σ : Sto) (f : FuncId) (k : Nat) (caps : List Cap) : List (Mode × Ty) → List Cap → Bool
  | (_, .sptr f' k') :: ps, c :: cs => both (both (Nat.beq f f') (Nat.beq k k')) (both (selfCap σ f caps c) (selfGo σ f k caps ps cs))
  | _ :: ps, _ :: cs => selfGo σ f k caps ps cs
  | [], [] => true
  | _, _ => false
def selfOk (σ : Sto) (f : FuncId) (n : Nat) (caps : List Cap) (ps : List (Mode × Ty)) : Bool := both (noSelf (ps.take n)) (selfGo σ f n caps (ps.drop n) caps)
def dynF (G : GTab) (σ : Sto) (dst : Option Nat) (f : V) (vs : List V) (K : Kont R) : Option R :=
  match f, vs with
  | .one (.ro (.fn1 a r) g), [x] => ob (asT σ a x) fun u => (g u).bind fun y => K (roV r y) []
  | .one (.ro (.fn2 a b r) g), [x, y] => ob (asT σ a x) fun u => ob (asT σ b y) fun v => (g u v).bind fun z => K (roV r z) []
  | .one (.clo f caps), vs => match G f with
    | some F => cond (selfOk σ f (lenC vs) caps F.ps) (callF G σ dst f (vs ++ caps.map fun c => .one (Cap.c f caps c)) K) none
    | none => none
  | .one (.ro (.kclo f t) x), vs => callS G σ dst f (vs ++ (split t x).map .one) K
  | .one (.clo1 f t x), vs => callS G σ dst f (roV t x :: vs) K
  | _, _ => none

def capMix : List V → Option (List Cap)
  | [] => some []
  | .one (.adr id 0) :: r => ob (capMix r) fun l => some (.id id :: l)
  | .one (.ro (.ptr t) x) :: r => ob (capMix r) fun l => some (.ro t x :: l)
  | _ => none

def funcF (G : GTab) (fn : Fn) (first captured : List V) (K : Kont R) : Option R :=
  match fn, first with
  | .func f, [] => ob (capMix captured) fun ids => K (.one (.clo f ids)) []
  | .func f, [v] => match G f, captured with
    | some ⟨(_, t) :: _, _, _⟩, [] => ob v.cells fun cs => cond (agb t.agg v.isAgg) (ob (roCs t cs) fun x => K (.one (.clo1 f t x)) []) none
    | _, _ => none
  | _, _ => none

def capsRo : (ps : List (Mode × Ty)) → List V → Option (argsT ps)
  | [], [] => some ()
  | (.ro, t) :: ps, .one (.ro c x) :: vs => ob (castT (a := c) t x) fun y => ob (capsRo ps vs) fun z => some (y, z)
  | _, _ => none
def roFn1 (F : FSum) (captured : List V) (K : Kont R) : Option R :=
  match F with
  | ⟨(.ro, a) :: ps, [(_, r)], g⟩ => cond r.flat (ob (capsRo ps captured) fun cs => K (.one (.ro (.fn1 a r) fun x => (g (x, cs)).bind fun y => some y.1.1)) []) none
  | _ => none
def roFn2 (F : FSum) (captured : List V) (K : Kont R) : Option R :=
  match F with
  | ⟨(.ro, a) :: (.ro, b) :: ps, [(_, r)], g⟩ => cond r.flat (ob (capsRo ps captured) fun cs => K (.one (.ro (.fn2 a b r) fun x y => (g (x, y, cs)).bind fun z => some z.1.1)) []) none
  | _ => none
def allRoV : List V → Bool
  | [] => true
  | .one (.ro _ _) :: r => allRoV r
  | _ => false
def makeFuncF (G : GTab) (fn : Fn) (first captured : List V) (K : Kont R) : Option R :=
  match fn, first, cond (Nat.beq (lenC captured) 0) false (allRoV captured) with
  | .func f, [], true => match Gn G f with
    | some F => cond (Nat.beq (lenC F.ps) (lenC captured + 1)) (roFn1 F captured K) (cond (Nat.beq (lenC F.ps) (lenC captured + 2)) (roFn2 F captured K) none)
    | none => none
  | _, _, _ => funcF G fn first captured K

def opd (e : Env) : Operand → V
  | .tmp t => e t
  | .const (.int k n) => .one (.ro (.int k) n)
  | .const (.bool b) => .one (.ro .bool b)
  | .const (.string s) => .one (.ro .str s)
  | .const (.slice none 0 0) => .one .nilsl
  | .const _ => .one .dead
  | .func f => .one (.clo f [])
  | .global _ => .one .dead

def opF (G : GTab) (Γ : Tab) (σ : Sto) (ρ : Operand → V) (o : Oper) (K : Kont R) : Option R :=
  let new : Option Id := o.dst.map fun d => 32 * (d + 1)
  match o.op with
  | .move x | .assign x => K (ρ x) []
  | .pick c a b => pickF (ρ c) (ρ a) (ρ b) K
  | .binOp op τ x y _ => binF Γ op τ (ρ x) (ρ y) K
  | .unOp op _ x => unF op (ρ x) K
  | .convert s d x => convF Γ s d (ρ x) K
  | .extract x i => extractF i (ρ x) K
  | .field s x f => fieldF Γ s f (ρ x) K
  | .index s x i => indexF Γ s (ρ x) (ρ i) K
  | .fieldAddr s x f => faddrF Γ s f (ρ x) K
  | .indexAddr s x i => iaddrM Γ σ s (ρ x) (ρ i) K
  | .load s x => loadM Γ σ new s (ρ x) K
  | .store s x v => storeM Γ σ s (ρ x) (ρ v) K
  | .box s x => boxF new ((ρ x).cells) K
  | .alloc s => allocM Γ new s K
  | .buildSlice s len parts => cond (partsOk 0 parts.toList) (litF Γ σ new s len (parts.toList.map fun p => (p.1, ρ p.2)) K) none
  | .build s parts => buildF Γ s (parts.toList.map fun p => (p.1, ρ p.2)) K
  | .makeSlice s l c => makeF Γ new s (ρ l) (ρ c) K
  | .slice s x lo hi mx => sliceF Γ σ s (ρ x) (lo.map ρ) (hi.map ρ) (mx.map ρ) K
  | .makeFunc fn first captured => makeFuncF G fn (first.toList.map ρ) (captured.toList.map ρ) K
  | .nilCheck x => match ρ x with
    | .one (.adr id off) => K (.one (.adr id off)) []
    | _ => none
  | .call c => match c.callee, c.args.toList.map ρ, c.argTypes.toList with
    | .builtin .len, [x], [s] => lenF Γ σ s x K
    | .builtin .append, [x, y], [s, s'] => appF Γ σ new s s' x y K
    | .builtin .copy, [x, y], [s, s'] => copyF Γ σ s s' x y K
    | .builtin .clear, [x], [s] => clearF Γ σ s x K
    | .builtin .max, [x, y], _ => maxF x y K
    | .builtin .min, [x, y], _ => minF x y K
    | .value (.func f), vs, _ => callS G σ o.dst f vs K
    | .value x, vs, _ => dynF G σ o.dst (ρ x) vs K
    | _, _, _ => none
  | .makeMap s none => mkMapF Γ new s K
  | .mapUpdate s m k v => mapPutF Γ σ s (ρ m) (ρ k) (ρ v) K
  | .lookup s m k false => mapGetF Γ σ s (ρ m) (ρ k) K
  | _ => none

def boxIds (σ : Sto) : List Id → List Id
  | [] => []
  | i :: r => (match σ i with
    | some (.box cs) => csIds cs
    | _ => []) ++ boxIds σ r
def reach (σ : Sto) (vs : List V) : List Id := valIds vs ++ boxIds σ (valIds vs)

def St.step (s : St) (d : Option Nat) (v : V) (u : Upd) : St := { s with env := s.env.put d v, sto := s.sto.puts u }

def isMove : Op → Bool
  | .move _ => true
  | .assign _ => true
  | _ => false
def opReach (s : St) (o : Oper) : List Id := cond (isMove o.op) [] (reach s.sto (o.op.operands.toList.map (opd s.env)))

noncomputable def amb (x y : Option R) : Option R := open Classical in if x = y then x else none
def nilCmp (Γ : Tab) (e : Env) (o : Oper) : Option (Bool × Bool) :=
  match o.op with
  | .binOp op τ x y _ => match opd e x, opd e y with
    | .one (.ro (.list _ _) xs), .one .nilsl => cond (isList Γ τ) (match op with
      | .eql => some (true, ieq (tLen xs) 0)
      | .neq => some (false, ieq (tLen xs) 0)
      | _ => none) none
    | _, _ => none
  | _ => none
noncomputable def runF (G : GTab) (Γ : Tab) (drawn : Bool) (s : St) (o : Oper) (K : Kont R) : Option R :=
  cond drawn (opF G Γ (s.sto.only (opReach s o)) (opd s.env) o K)
    (match nilCmp Γ s.env o with
    | some (p, b) => br b (amb (K (roV .bool p) []) (K (roV .bool (no p)) [])) (K (roV .bool (no p)) [])
    | none => opF G Γ s.sto (opd s.env) o K)

noncomputable def stepF (G : GTab) (Γ : Tab) (drawn : Bool) (ops : Array Oper) (s : St) (o : Oper) (K : St → Kont R) : Option R :=
  match o.guard with
  | none => runF G Γ drawn s o (K s)
  | some (j, want) => match ob ops[j]? (·.dst) with
    | some t => match s.env t with
      | .one .undef => K s (.one .undef) []
      | .one (.ro .bool b) =>
        br b
          (cond want (runF G Γ drawn { s with env := s.env.put (some t) (roV .bool true) } o (K { s with env := s.env.put (some t) (roV .bool true) }))
            (K { s with env := s.env.put (some t) (roV .bool true) } (.one .undef) []))
          (cond want (K { s with env := s.env.put (some t) (roV .bool false) } (.one .undef) [])
            (runF G Γ drawn { s with env := s.env.put (some t) (roV .bool false) } o (K { s with env := s.env.put (some t) (roV .bool false) })))
      | _ => none
    | none => none

noncomputable def opsF (G : GTab) (Γ : Tab) (ops : Array Oper) : List Oper → St → (St → Option R) → Option R
  | [], s, K => K s
  | o :: r, s, K => stepF G Γ false ops s o fun s' v u => opsF G Γ ops r (s'.step o.dst v u) K

def maskOf (acc : List Nat) (o : Oper) : Nat :=
  o.after.toList.foldr (fun e s => cond (Region.binds .any e) ((2 ^ e.on ||| acc.getD e.on 0) ||| s) s) 0
def masksGo : List Oper → List Nat → List Nat
  | [], acc => acc
  | o :: r, acc => masksGo r (acc ++ [maskOf acc o])

structure Rec where
  i : Nat
  o : Oper
  rs : List Id
  us : List Id
def noneOf : List Id → List Id → Bool
  | [], _ => true
  | i :: r, b => both (no (hasId b i)) (noneOf r b)
def indep (ops : Array Oper) (ms : List Nat) (p q : Rec) : Bool :=
  cond ((ms.getD q.i 0).testBit p.i) true (both (both (Oper.apart ops p.o q.o) (noneOf p.us q.rs)) (both (noneOf q.us p.rs) (noneOf p.us q.us)))

def allIndep (ops : Array Oper) (ms : List Nat) : List Rec → Rec → Bool
  | [], _ => true
  | p :: r, q => both (indep ops ms p q) (allIndep ops ms r q)

noncomputable def opsD (G : GTab) (Γ : Tab) (ops : Array Oper) (ms : List Nat) : List Nat → St → List Rec → (St → Option R) → Option R
  | [], s, _, K => K s
  | i :: r, s, acc, K => match ops[i]? with
    | some o => stepF G Γ true ops s o fun s' v u =>
      let me : Rec := ⟨i, o, opReach s o, u.map (·.1)⟩
      cond (allIndep ops ms acc me) (opsD G Γ ops ms r (s'.step o.dst v u) (me :: acc) K) none
    | none => none

def backEdges (i : Nat) : List Edge → Bool
  | [] => true
  | e :: r => both (cond (Region.binds .any e) (Nat.blt e.on i) true) (backEdges i r)
def backAll : Nat → List Oper → Bool
  | _, [] => true
  | i, o :: r => both (backEdges i o.after.toList) (backAll (i + 1) r)

noncomputable def regF (G : GTab) (Γ : Tab) (ops : Array Oper) (draw : Bool) (s : St) (K : St → Option R) : Option R :=
  cond draw
    (cond (backAll 0 ops.toList)
      (opsD G Γ ops (masksGo ops.toList []) (List.range ops.size) s [] K) none)
    (opsF G Γ ops ops.toList s K)
end

def openOp (Γ : Tab) (s : St) (o : Oper) : St :=
  match o.op, o.dst with
  | .load τ (.tmp t), some d => match s.env t with
    | .one (.adr id 0) => match s.sto id, Γ τ with
      | some (.mbox a y), some td => cond (both (tyb a td.ty) (Nat.ble (lists a) 32))
        { s with sto := s.sto.puts ((id, none) :: ((mkOwn a y (32 * (100000 + d + 1))).2.1 ++ [(id, some (.box (mkOwn a y (32 * (100000 + d + 1))).1))])) } s
      | _, _ => s
    | _ => s
  | .move (.tmp t), _ => match s.env t with
    | .one (.adr id 0) => match s.sto id with
      | some (.mbox a y) => cond (Nat.beq (lists a) 0) { s with sto := s.sto.puts ((id, none) :: ((mkOwn a y 0).2.1 ++ [(id, some (.box (mkOwn a y 0).1))])) } s
      | _ => s
    | _ => s
  | _, _ => s
def openAll (Γ : Tab) : List Oper → St → St
  | [], s => s
  | o :: r, s => openAll Γ r (openOp Γ s o)
inductive CapS where
  | id (n : Nat)
  | ro (t : Ty)
  | me
@[reducible] def CapS.T : CapS → Type
  | .ro t => t.T
  | _ => Unit
@[reducible] def CapsT : List CapS → Type
  | [] => Unit
  | c :: r => c.T × CapsT r
inductive CS where
  | dead
  | nilsl
  | ro (t : Ty)
  | ref (id : Nat)
  | el (id : Nat)
  | adr (id : Nat) (off : Nat)
  | num (k : IntKind) (n : Nat)
  | sub (id : Nat) (sz : Nat)
  | clo (f : FuncId) (caps : List CapS)
  | sadr (f : FuncId) (caps : List CapS)
  | mref (id : Nat)
@[reducible] def CS.T : CS → Type
  | .ro t => t.T
  | .el _ => Int
  | .sub _ _ => Int × Int
  | .clo _ caps => CapsT caps
  | .sadr _ caps => CapsT caps
  | _ => Unit
inductive VS where
  | one (c : CS)
  | agg (cs : List CS)
@[reducible] def CsT : List CS → Type
  | [] => Unit
  | c :: r => c.T × CsT r
@[reducible] def VS.T : VS → Type
  | .one c => c.T
  | .agg cs => CsT cs
inductive OS where
  | sl (e : TypeId) (t : Ty) (m : Mo)
  | box (cs : List CS)
  | mbox (t : Ty)
  | mp (k e : TypeId) (κ : IntKind)
  | mat
@[reducible] def OS.T : OS → Type
  | .sl _ t _ => List t.T
  | .box cs => CsT cs
  | .mbox t => t.T
  | .mp _ _ _ => List Int
  | .mat => List Int
@[reducible] def EnvT : List (Nat × VS) → Type
  | [] => Unit
  | (_, v) :: r => v.T × EnvT r
@[reducible] def StoT : List OS → Type
  | [] => Unit
  | o :: r => o.T × StoT r
structure Sh where
  env : List (Nat × VS)
  sto : List OS
@[reducible] def Sh.T (s : Sh) : Type := EnvT s.env × StoT s.sto

def fillCap : (c : CapS) → c.T → Cap
  | .id n, _ => .id n
  | .ro t, x => .ro t x
  | .me, _ => .me
def fillCaps : (l : List CapS) → CapsT l → List Cap
  | [], _ => []
  | c :: r, x => fillCap c x.1 :: fillCaps r x.2
def fillC : (c : CS) → c.T → C
  | .dead, _ => .dead
  | .nilsl, _ => .nilsl
  | .ro t, x => .ro t x
  | .ref i, _ => .ref i
  | .el i, j => .el i j 0
  | .adr i o, _ => .adr i o
  | .num k n, _ => .ro (.int k) (Int.ofNat n)
  | .sub i sz, x => .sub i sz x.1 x.2
  | .clo f l, x => .clo f (fillCaps l x)
  | .sadr f l, x => .sadr f (fillCaps l x)
  | .mref i, _ => .mref i
def fillCs' : (l : List CS) → CsT l → List C
  | [], _ => []
  | c :: r, x => fillC c x.1 :: fillCs' r x.2
def fillV : (v : VS) → v.T → V
  | .one c, x => .one (fillC c x)
  | .agg cs, x => .agg (fillCs' cs x)
def fillO : (o : OS) → o.T → PObj
  | .sl e t m, x => .sl e t m x 0 none
  | .box cs, x => .box (fillCs' cs x)
  | .mbox t, x => .mbox t x
  | .mp k e κ, x => .mp k e κ x
  | .mat, x => .mat x
def fillE : (l : List (Nat × VS)) → EnvT l → Env
  | [], _ => fun _ => .one .dead
  | (t, v) :: r, x => fun u => cond (Nat.beq u t) (fillV v x.1) (fillE r x.2 u)
def fillS : (l : List OS) → Nat → StoT l → Sto
  | [], _, _ => fun _ => none
  | o :: r, n, x => fun j => cond (Nat.beq j n) (some (fillO o x.1)) (fillS r (n + 1) x.2 j)
def fill (sh : Sh) (x : sh.T) : St := ⟨fillE sh.env x.1, fillS sh.sto 0 x.2⟩

abbrev Ren := List (Nat × Option Id)
def Ren.find (ρ : Ren) (n : Nat) : Option (Option Id) :=
  match ρ with
  | [] => none
  | (m, i) :: r => cond (Nat.beq m n) (some i) (Ren.find r n)
def Ren.has : Ren → Id → Bool
  | [], _ => false
  | p :: l, i => cond (match p.2 with
    | some j => Nat.beq j i
    | none => false) true (Ren.has l i)
def Ren.add (ρ : Ren) (n : Nat) (i : Id) : Option Ren :=
  match ρ.find n with
  | some (some j) => cond (Nat.beq i j) (some ρ) none
  | some none => none
  | none => cond (ρ.has i) none (some (ρ ++ [(n, some i)]))
def Ren.nil (ρ : Ren) (n : Nat) : Option Ren :=
  match ρ.find n with
  | some _ => none
  | none => some (ρ ++ [(n, none)])

def viewCap : (s : CapS) → Cap → Ren → Option (s.T × Ren)
  | .id n, .id i, ρ => ob (ρ.add n i) fun ρ' => some ((), ρ')
  | .ro t, .ro a x, ρ => ob (castT (a := a) t x) fun y => some (y, ρ)
  | .me, .me, ρ => some ((), ρ)
  | _, _, _ => none
def viewCaps : (l : List CapS) → List Cap → Ren → Option (CapsT l × Ren)
  | [], [], ρ => some ((), ρ)
  | s :: l, c :: cs, ρ => ob (viewCap s c ρ) fun p => ob (viewCaps l cs p.2) fun q => some ((p.1, q.1), q.2)
  | _, _, _ => none
def viewC (σ : Sto) : (s : CS) → C → Ren → Option (s.T × Ren)
  | .dead, _, ρ => some ((), ρ)
  | .nilsl, .nilsl, ρ => some ((), ρ)
  | .ro t, .ro a x, ρ => ob (castT t x) fun y => some (y, ρ)
  | .ro (.list e t), .nilsl, ρ => some (([] : List t.T), ρ)
  | .ref n, .ref i, ρ => ob (ρ.add n i) fun ρ' => some ((), ρ')
  | .ref n, .nilsl, ρ => ob (ρ.nil n) fun ρ' => some ((), ρ')
  | .el n, .el i j hv, ρ => match σ i with
    | some (.sl _ _ _ _ hv' none) => cond (Nat.beq hv hv') (ob (ρ.add n i) fun ρ' => some (j, ρ')) none
    | _ => none
  | .adr n o, .adr i o', ρ => cond (Nat.beq o o') (ob (ρ.add n i) fun ρ' => some ((), ρ')) none
  | .num k n, .ro (.int k') x, ρ => match x with
    | .ofNat m => cond (both (kb k k') (Nat.beq m n)) (some ((), ρ)) none
    | _ => none
  | .sub n sz, .sub i sz' lo hi, ρ => cond (Nat.beq sz sz') (ob (ρ.add n i) fun ρ' => some ((lo, hi), ρ')) none
  | .sub n sz, .ref i, ρ => match σ i with
    | some (.sl _ t _ xs _ none) => cond (Nat.beq sz t.n) (ob (ρ.add n i) fun ρ' => some ((0, tLen xs), ρ')) none
    | _ => none
  | .clo f l, .clo f' caps, ρ => cond (Nat.beq f f') (viewCaps l caps ρ) none
  | .sadr f l, .sadr f' caps, ρ => cond (Nat.beq f f') (viewCaps l caps ρ) none
  | .mref n, .mref i, ρ => ob (ρ.add n i) fun ρ' => some ((), ρ')
  | _, _, _ => none
def viewCs (σ : Sto) : (l : List CS) → List C → Ren → Option (CsT l × Ren)
  | [], [], ρ => some ((), ρ)
  | s :: l, c :: cs, ρ => ob (viewC σ s c ρ) fun p => ob (viewCs σ l cs p.2) fun q => some ((p.1, q.1), q.2)
  | _, _, _ => none
def viewV (σ : Sto) : (s : VS) → V → Ren → Option (s.T × Ren)
  | .one s, .one c, ρ => viewC σ s c ρ
  | .one (.ro t), .agg cs, ρ => cond t.agg (ob (roCs t cs) fun x => some (x, ρ)) none
  | .one .dead, _, ρ => some ((), ρ)
  | .agg l, .agg cs, ρ => viewCs σ l cs ρ
  | _, _, _ => none
def viewE (σ : Sto) (e : Env) : (l : List (Nat × VS)) → Ren → Option (EnvT l × Ren)
  | [], ρ => some ((), ρ)
  | (t, s) :: l, ρ => ob (viewV σ s (e t) ρ) fun p => ob (viewE σ e l p.2) fun q => some ((p.1, q.1), q.2)
def viewO (σ : Sto) : (s : OS) → PObj → Ren → Option (s.T × Ren)
  | .sl e t m, .sl e' t' m' xs _ none, ρ => cond (mob m m') (cond (Nat.beq e e') (ob (castT (a := .list e' t') (.list e t) xs) fun y => some (y, ρ)) none)
      (cond (both (mob m .own) (mob m' .deep)) (match xs with
        | [] => cond (both (Nat.beq e e') (tyb t t')) (some ([], ρ)) none
        | _ => none) none)
  | .box l, .box cs, ρ => viewCs σ l cs ρ
  | .mbox t, .mbox a x, ρ => ob (castT (a := a) t x) fun y => some (y, ρ)
  | .mp k e κ, .mp k' e' κ' xs, ρ => cond (sameMap k e k' e' κ κ') (some (xs, ρ)) none
  | .mat, .mat xs, ρ => some (xs, ρ)
  | _, _, _ => none
def viewS (σ : Sto) : (l : List OS) → Nat → Ren → Option (StoT l × Ren)
  | [], _, ρ => some ((), ρ)
  | s :: l, n, ρ => match ρ.find n with
    | some (some i) => match σ i with
      | some o => ob (viewO σ s o ρ) fun p => ob (viewS σ l (n + 1) p.2) fun q => some ((p.1, q.1), q.2)
      | none => none
    | some none => match s with
      | .sl _ t m => cond (mob m (cond t.isList m .own)) (ob (viewS σ l (n + 1) ρ) fun q => some (([], q.1), q.2)) none
      | _ => none
    | none => none
def allBelow : Ren → Nat → Bool
  | [], _ => true
  | r :: l, n => both (Nat.blt r.1 n) (allBelow l n)
def collU (ρ : Ren) : List OS → Nat → Sto → Upd
  | [], _, _ => []
  | .mbox t :: l, n, σ => match ρ.find n with
    | some (some i) => match σ i with
      | some (.box cs) => match cond (both (Nat.beq cs.length t.n) (nodupIds (i :: refs σ t cs))) (ownCs σ (fun _ => none) true t cs) none with
        | some x => (refs σ t cs).map (fun j => (j, none)) ++ (i, some (.mbox t x)) :: collU ρ l (n + 1) (σ.puts ((refs σ t cs).map (fun j => (j, none)) ++ [(i, some (.mbox t x))]))
        | none => collU ρ l (n + 1) σ
      | _ => collU ρ l (n + 1) σ
    | _ => collU ρ l (n + 1) σ
  | _ :: l, n, σ => collU ρ l (n + 1) σ
def hasMbox : List OS → Bool
  | [] => false
  | .mbox _ :: _ => true
  | _ :: l => hasMbox l
def view0 (sh : Sh) (s : St) : Option sh.T :=
  ob (viewE s.sto s.env sh.env []) fun p => ob (viewS s.sto sh.sto 0 p.2) fun q =>
    cond (both (allBelow q.2 sh.sto.length) (Nat.ble sh.sto.length 32)) (some (p.1, q.1)) none
def closed (sh : Sh) (s : St) : St :=
  match viewE s.sto s.env sh.env [] with
  | some p => { s with sto := s.sto.puts (collU p.2 sh.sto 0 s.sto) }
  | none => s
def view (sh : Sh) (s : St) : Option sh.T := cond (hasMbox sh.sto) (view0 sh (closed sh s)) (view0 sh s)

def Sh.none : Sh := ⟨[], []⟩
structure LSum where
  sh : Sh
  exs : List (Ex × Sh)
  f : {R : Type} → sh.T → ((j : Nat) → ((exs.getD j (.ret, Sh.none)).2).T → Option R) → Option R

def nloops : Code → Nat
  | .seq a b => nloops a + nloops b
  | .cond _ a b => nloops a + nloops b
  | .block _ c => nloops c
  | .loop _ => 1
  | _ => 0

def loopAt : Code → Nat → Code
  | .seq a b, i => cond (Nat.blt i (nloops a)) (loopAt a i) (loopAt b (i - nloops a))
  | .cond _ a b, i => cond (Nat.blt i (nloops a)) (loopAt a i) (loopAt b (i - nloops a))
  | .block _ c, i => loopAt c i
  | .loop c, _ => c
  | _, _ => .skip

noncomputable def codeF {R : Type} (G : GTab) (Γ : Tab) (L : List LSum) : Code → (base : Nat) → St → (Ex → St → Option R) → Option R
  | .skip, _, s, K => K .normal s
  | .region _ ops draw, _, s, K => regF G Γ ops draw (cond draw (openAll Γ ops.toList s) s) (K .normal)
  | .seq a b, n, s, K => codeF G Γ L a n s fun e s' => match e with
    | .normal => codeF G Γ L b (n + nloops a) s' K
    | e => K e s'
  | .cond c a b, n, s, K => match opd s.env c with
    | .one (.ro .bool x) => match c with
      | .tmp t => br x (codeF G Γ L a n { s with env := s.env.put (some t) (roV .bool true) } K)
          (codeF G Γ L b (n + nloops a) { s with env := s.env.put (some t) (roV .bool false) } K)
      | _ => br x (codeF G Γ L a n s K) (codeF G Γ L b (n + nloops a) s K)
    | _ => none
  | .block i c, n, s, K => codeF G Γ L c n s fun e s' => match e with
    | .exit j => cond (Nat.beq j i) (K .normal s') (K (.exit j) s')
    | e => K e s'
  | .loop _, n, s, K => match L[n]? with
    | some l => ob (view l.sh s) fun x => l.f x fun j y => K (l.exs.getD j (.ret, Sh.none)).1 (fill (l.exs.getD j (.ret, Sh.none)).2 y)
    | none => none
  | .exit i, _, s, K => K (.exit i) s
  | .ret, _, s, K => K .ret s
  | _, _, _, _ => none

def exb : Ex → Ex → Bool
  | .normal, .normal => true
  | .ret, .ret => true
  | .exit i, .exit j => Nat.beq i j
  | _, _ => false
theorem exb_eq {a b : Ex} (h : exb a b = true) : a = b := by cases a <;> cases b <;> simp_all [exb]
def exFind : List (Ex × Sh) → Ex → Nat → Option Nat
  | [], _, _ => none
  | p :: r, e, n => cond (exb p.1 e) (some n) (exFind r e (n + 1))

noncomputable def roundF {R : Type} (G : GTab) (Γ : Tab) (L : List LSum) (c : Code) (sh : Sh) (exs : List (Ex × Sh)) (again : sh.T → Option R)
    (ks : (j : Nat) → ((exs.getD j (.ret, Sh.none)).2).T → Option R) (x : sh.T) : Option R :=
  codeF G Γ L c 0 (fill sh x) fun e s => match e with
    | .normal => ob (view sh s) again
    | e => match exFind exs e 0 with
      | some j => ob (view (exs.getD j (.ret, Sh.none)).2 s) (ks j)
      | none => none

def entryV : (ps : List (Mode × Ty)) → argsT ps → (slot d : Nat) → List (Nat × V) × Upd
  | [], _, _, _ => ([], [])
  | (.ro, t) :: ps, x, i, d =>
    let q := entryV ps x.2 (i + 1) d
    ((i, roV t x.1) :: q.1, q.2)
  | (_, t) :: ps, x, i, d =>
    let p := mkOwn t x.1 d
    let q := entryV ps x.2 (i + 1) p.2.2
    ((i, ofCells t.agg p.1) :: q.1, p.2.1 ++ q.2)
def envOf : List (Nat × V) → Env
  | [] => fun _ => .one .dead
  | (t, v) :: r => fun u => cond (Nat.beq u t) v (envOf r u)
def selfC (k : Nat) : V → Cap
  | .one (.ro (.sptr _ k') _) => cond (Nat.beq k k') .me .bad
  | .one c => Cap.of c
  | _ => .bad
def selfV (ev : List (Nat × V)) : V → V
  | .one (.ro (.sptr f k) _) => .one (.sadr f ((ev.drop k).map fun p => selfC k p.2))
  | v => v
def entry (ps : List (Mode × Ty)) (x : argsT ps) : St :=
  let p := entryV ps x 0 0
  ⟨envOf (cond (noSelf ps) p.1 (p.1.map fun q => (q.1, selfV p.1 q.2))), Sto.puts (fun _ => none) p.2⟩

def resC (σ : Sto) (sb own : Bool) (t : Ty) (v : V) : Option t.T :=
  match own with
  | true => ob v.cells fun cs => cond (both (agb t.agg v.isAgg) t.para) (ownCs σ (fun _ => none) sb t cs) none
  | false => asR σ t v
def resultV (s : St) (n : TypeId → Option TD) : ResultVar → Option V
  | .tmp t => some (s.env t)
  | .cell a τ => match s.env a, n τ with
    | .one (.adr id 0), some d => match s.sto id with
      | some (.box cs) => cond (Nat.beq cs.length d.ty.n) (some (ofCells d.ty.agg cs)) none
      | _ => none
    | _, _ => none
def resVs (Γ : Tab) (s : St) : List ResultVar → Option (List V)
  | [] => some []
  | r :: l => ob (resultV s Γ r) fun v => ob (resVs Γ s l) fun vs => some (v :: vs)
def isEl : V → Bool
  | .one (.el _ _ _) => true
  | _ => false
def elIds : V → List Id
  | .one (.el id _ _) => [id]
  | _ => []
def takeRow (σ : Sto) (t : Ty) (v : V) : Option t.T :=
  match t, v with
  | .list e a, .one (.el id i hv) => match σ id with
    | some (.sl _ (.list e' a') .deep xs hv' none) => cond (both (Nat.beq hv hv') (no a'.isList)) (castT (a := .list e' a') (.list e a) (rd (.list e' a') xs i)) none
    | _ => none
  | _, _ => none
def resIds (σ : Sto) : List (Bool × Ty) → List V → List Id
  | [], _ => []
  | _, [] => []
  | (own, t) :: rs, v :: vs => cond own (cond (isEl v) (elIds v) (refs σ t (v.cells.getD []))) [] ++ resIds σ rs vs
def takeRes (σ σ' : Sto) : (rs : List (Bool × Ty)) → List V → Option (resT rs)
  | [], [] => some ()
  | (own, t) :: rs, v :: vs => ob (cond (both own (isEl v)) (takeRow σ t v) (resC (cond own σ σ') true own t v)) fun x => ob (takeRes σ σ' rs vs) fun y => some (x, y)
  | _, _ => none
def takeMut (s : St) : (ps : List (Mode × Ty)) → Nat → Option (mutT ps)
  | [], _ => some ()
  | (.ro, _) :: ps, i => takeMut s ps (i + 1)
  | (.own, _) :: ps, i => takeMut s ps (i + 1)
  | (.mut, t) :: ps, i => ob (resC s.sto false true t (s.env i)) fun y => ob (takeMut s ps (i + 1)) fun q => some (y, q)

def mutIds (σ : Sto) (e : Env) : List (Mode × Ty) → Nat → List Id
  | [], _ => []
  | (.ro, _) :: ps, i => mutIds σ e ps (i + 1)
  | (.own, _) :: ps, i => mutIds σ e ps (i + 1)
  | (.mut, t) :: ps, i => refs σ t ((e i).cells.getD []) ++ mutIds σ e ps (i + 1)
def mutSlots : List (Mode × Ty) → Nat → List Nat
  | [], _ => []
  | (.ro, _) :: ps, i => mutSlots ps (i + 1)
  | (.own, _) :: ps, i => mutSlots ps (i + 1)
  | (.mut, _) :: ps, i => i :: mutSlots ps (i + 1)

def endF (Γ : Tab) (ps : List (Mode × Ty)) (rs : List (Bool × Ty)) (res : List ResultVar) : Ex → St → Option (resT rs × mutT ps)
  | .exit _, _ => none
  | _, s => ob (resVs Γ s res) fun vs =>
    cond (nodupIds (resIds s.sto rs vs ++ mutIds s.sto s.env ps 0))
      (ob (takeRes s.sto (s.sto.puts ((resIds s.sto rs vs ++ mutIds s.sto s.env ps 0).map fun i => (i, none))) rs vs) fun y => ob (takeMut s ps 0) fun m => some (y, m)) none

noncomputable def funF (G : GTab) (Γ : Tab) (L : List LSum) (fn : Func) (ps : List (Mode × Ty)) (rs : List (Bool × Ty)) (x : argsT ps) : Option (resT rs × mutT ps) :=
  match fn.body with
  | some c => codeF G Γ L c 0 (entry ps x) (endF Γ ps rs fn.results.toList)
  | none => none

end Go.PV
