/- Regions whose order is drawn. -/
import Derived.Test.YtahehkidnfmfnaaGreatPvCode
set_option linter.all false
namespace Go.PV
open Go

def Det (f : (R : Type) → Kont R → Option R) : Prop := ∀ R K r, f R K = some r → ∃ v u, K v u = some r ∧ ∀ S (K' : Kont S), f S K' = K' v u
theorem Det.k (v : V) (u : Upd) : Det fun _ K => K v u := fun _ _ _ h => ⟨v, u, h, fun _ _ => rfl⟩
theorem Det.no : Det fun _ _ => none := fun _ _ _ h => by cases h
theorem Det.ob {α : Type} {x : Option α} {f : α → (R : Type) → Kont R → Option R} (h : ∀ a, Det (f a)) : Det fun R K => Go.PV.ob x fun a => f a R K := by
  cases x with
  | none => exact Det.no
  | some a => exact h a
theorem Det.bind {α : Type} {x : Option α} {f : α → (R : Type) → Kont R → Option R} (h : ∀ a, Det (f a)) : Det fun R K => x.bind fun a => f a R K := by
  cases x with
  | none => exact Det.no
  | some a => exact h a
theorem Det.cond {b : Bool} {f g : (R : Type) → Kont R → Option R} (h : Det f) (h' : Det g) : Det fun R K => Bool.rec (g R K) (f R K) b := by
  cases b with
  | false => exact h'
  | true => exact h
theorem Det.cond' {b : Bool} {f g : (R : Type) → Kont R → Option R} (h : Det f) (h' : Det g) : Det fun R K => _root_.cond b (f R K) (g R K) := by
  cases b with
  | false => exact h'
  | true => exact h
theorem Det.br {b : Bool} {f g : (R : Type) → Kont R → Option R} (h : Det f) (h' : Det g) : Det fun R K => Go.PV.br b (f R K) (g R K) := by
  cases b with
  | false => exact h'
  | true => exact h
theorem Det.chk {b : Bool} {f : (R : Type) → Kont R → Option R} (h : Det f) : Det fun R K => Go.PV.chk b (f R K) := by
  cases b with
  | false => exact Det.no
  | true => exact h
theorem Det.dite {p : Prop} [Decidable p] {f : p → (R : Type) → Kont R → Option R} {g : ¬ p → (R : Type) → Kont R → Option R} (h : ∀ x, Det (f x)) (h' : ∀ x, Det (g x)) : Det fun R K => if x : p then f x R K else g x R K := by
  by_cases hp : p
  · simp only [dif_pos hp]; exact h hp
  · simp only [dif_neg hp]; exact h' hp

theorem det_int (op : BinOp) (k : IntKind) (a b : Int) : Det fun R K => intF (R := R) op k a b K := by
  cases op <;> simp only [intF] <;> first | exact Det.no | exact Det.k _ _ | exact Det.chk (Det.k _ _)

theorem det_bin (Γ : Tab) (op : BinOp) (τ : TypeId) (x y : V) : Det fun R K => binF (R := R) Γ op τ x y K := by
  unfold binF
  repeat' (first | exact Det.no | exact Det.k _ _ | exact det_int _ _ _ _ | refine Det.ob fun _ => ?_ | refine Det.bind fun _ => ?_ | refine Det.chk ?_ | refine Det.br ?_ ?_ | refine Det.cond' ?_ ?_ | refine Det.dite (fun _ => ?_) (fun _ => ?_) | split)
theorem det_un (op : UnOp) (x : V) : Det fun R K => unF (R := R) op x K := by
  unfold unF
  repeat' (first | exact Det.no | exact Det.k _ _ | exact det_int _ _ _ _ | refine Det.ob fun _ => ?_ | refine Det.bind fun _ => ?_ | refine Det.chk ?_ | refine Det.br ?_ ?_ | refine Det.cond' ?_ ?_ | refine Det.dite (fun _ => ?_) (fun _ => ?_) | split)
theorem det_pick (c a b : V) : Det fun R K => pickF (R := R) c a b K := by
  unfold pickF
  repeat' (first | exact Det.no | exact Det.k _ _ | exact det_int _ _ _ _ | refine Det.ob fun _ => ?_ | refine Det.bind fun _ => ?_ | refine Det.chk ?_ | refine Det.br ?_ ?_ | refine Det.cond' ?_ ?_ | refine Det.dite (fun _ => ?_) (fun _ => ?_) | split)
theorem det_conv (Γ : Tab) (s d : TypeId) (x : V) : Det fun R K => convF (R := R) Γ s d x K := by
  unfold convF
  repeat' (first | exact Det.no | exact Det.k _ _ | exact det_int _ _ _ _ | refine Det.ob fun _ => ?_ | refine Det.bind fun _ => ?_ | refine Det.chk ?_ | refine Det.br ?_ ?_ | refine Det.cond' ?_ ?_ | refine Det.dite (fun _ => ?_) (fun _ => ?_) | split)
theorem det_extract (i : Nat) (x : V) : Det fun R K => extractF (R := R) i x K := by
  unfold extractF
  repeat' (first | exact Det.no | exact Det.k _ _ | exact det_int _ _ _ _ | refine Det.ob fun _ => ?_ | refine Det.bind fun _ => ?_ | refine Det.chk ?_ | refine Det.br ?_ ?_ | refine Det.cond' ?_ ?_ | refine Det.dite (fun _ => ?_) (fun _ => ?_) | split)
theorem det_field (Γ : Tab) (s : TypeId) (f : Nat) (x : V) : Det fun R K => fieldF (R := R) Γ s f x K := by
  unfold fieldF
  repeat' (first | exact Det.no | exact Det.k _ _ | exact det_int _ _ _ _ | refine Det.ob fun _ => ?_ | refine Det.bind fun _ => ?_ | refine Det.chk ?_ | refine Det.br ?_ ?_ | refine Det.cond' ?_ ?_ | refine Det.dite (fun _ => ?_) (fun _ => ?_) | split)
theorem det_index (Γ : Tab) (s : TypeId) (x i : V) : Det fun R K => indexF (R := R) Γ s x i K := by
  unfold indexF
  repeat' (first | exact Det.no | exact Det.k _ _ | exact det_int _ _ _ _ | refine Det.ob fun _ => ?_ | refine Det.bind fun _ => ?_ | refine Det.chk ?_ | refine Det.br ?_ ?_ | refine Det.cond' ?_ ?_ | refine Det.dite (fun _ => ?_) (fun _ => ?_) | split)
theorem det_faddr (Γ : Tab) (s : TypeId) (f : Nat) (x : V) : Det fun R K => faddrF (R := R) Γ s f x K := by
  unfold faddrF
  repeat' (first | exact Det.no | exact Det.k _ _ | exact det_int _ _ _ _ | refine Det.ob fun _ => ?_ | refine Det.bind fun _ => ?_ | refine Det.chk ?_ | refine Det.br ?_ ?_ | refine Det.cond' ?_ ?_ | refine Det.dite (fun _ => ?_) (fun _ => ?_) | split)
theorem det_iaddr (Γ : Tab) (σ : Sto) (s : TypeId) (x i : V) : Det fun R K => iaddrF (R := R) Γ σ s x i K := by
  unfold iaddrF
  repeat' (first | exact Det.no | exact Det.k _ _ | exact det_int _ _ _ _ | refine Det.ob fun _ => ?_ | refine Det.bind fun _ => ?_ | refine Det.chk ?_ | refine Det.br ?_ ?_ | refine Det.cond' ?_ ?_ | refine Det.dite (fun _ => ?_) (fun _ => ?_) | split)
theorem det_open (new : Option Id) (t : Ty) (id : Id) (off : Nat) (a : Ty) (y : a.T) : Det fun R K => openF (R := R) new t id off a y K := by
  unfold openF
  repeat' (first | exact Det.no | exact Det.k _ _ | exact det_int _ _ _ _ | refine Det.ob fun _ => ?_ | refine Det.bind fun _ => ?_ | refine Det.chk ?_ | refine Det.br ?_ ?_ | refine Det.cond' ?_ ?_ | refine Det.dite (fun _ => ?_) (fun _ => ?_) | split)
theorem det_load (Γ : Tab) (σ : Sto) (new : Option Id) (s : TypeId) (x : V) : Det fun R K => loadF (R := R) Γ σ new s x K := by
  unfold loadF
  repeat' (first | exact Det.no | exact det_open _ _ _ _ _ _ | exact Det.k _ _ | exact det_int _ _ _ _ | refine Det.ob fun _ => ?_ | refine Det.bind fun _ => ?_ | refine Det.chk ?_ | refine Det.br ?_ ?_ | refine Det.cond' ?_ ?_ | refine Det.dite (fun _ => ?_) (fun _ => ?_) | split)
theorem det_storeEl (σ : Sto) (u : Ty) (id : Id) (i : Int) (v : V) : Det fun R K => storeEl (R := R) σ u id i v K := by
  unfold storeEl
  repeat' (first | exact Det.no | exact Det.k _ _ | exact det_int _ _ _ _ | refine Det.ob fun _ => ?_ | refine Det.bind fun _ => ?_ | refine Det.chk ?_ | refine Det.br ?_ ?_ | refine Det.cond' ?_ ?_ | refine Det.dite (fun _ => ?_) (fun _ => ?_) | split)
theorem det_storePart (σ : Sto) (u : Ty) (id : Id) (i : Int) (off : Nat) (v : V) : Det fun R K => storePart (R := R) σ u id i off v K := by
  unfold storePart
  repeat' (first | exact Det.no | exact Det.k _ _ | exact det_int _ _ _ _ | refine Det.ob fun _ => ?_ | refine Det.bind fun _ => ?_ | refine Det.chk ?_ | refine Det.br ?_ ?_ | refine Det.cond' ?_ ?_ | refine Det.dite (fun _ => ?_) (fun _ => ?_) | split)
theorem det_box (new : Option Id) (cs : Option (List C)) : Det fun R K => boxF (R := R) new cs K := by
  unfold boxF
  repeat' (first | exact Det.no | exact Det.k _ _ | exact det_int _ _ _ _ | refine Det.ob fun _ => ?_ | refine Det.bind fun _ => ?_ | refine Det.chk ?_ | refine Det.br ?_ ?_ | refine Det.cond' ?_ ?_ | refine Det.dite (fun _ => ?_) (fun _ => ?_) | split)
theorem det_lit (Γ : Tab) (σ : Sto) (new : Option Id) (s : TypeId) (len : Nat) (parts : List (Nat × V)) : Det fun R K => litF (R := R) Γ σ new s len parts K := by
  unfold litF
  repeat' (first | exact Det.no | exact Det.k _ _ | exact det_int _ _ _ _ | refine Det.ob fun _ => ?_ | refine Det.bind fun _ => ?_ | refine Det.chk ?_ | refine Det.br ?_ ?_ | refine Det.cond' ?_ ?_ | refine Det.dite (fun _ => ?_) (fun _ => ?_) | split)
theorem det_build (Γ : Tab) (s : TypeId) (parts : List (Nat × V)) : Det fun R K => buildF (R := R) Γ s parts K := by
  unfold buildF
  repeat' (first | exact Det.no | exact Det.k _ _ | exact det_int _ _ _ _ | refine Det.ob fun _ => ?_ | refine Det.bind fun _ => ?_ | refine Det.chk ?_ | refine Det.br ?_ ?_ | refine Det.cond' ?_ ?_ | refine Det.dite (fun _ => ?_) (fun _ => ?_) | split)
theorem det_make (Γ : Tab) (new : Option Id) (s : TypeId) (l c : V) : Det fun R K => makeF (R := R) Γ new s l c K := by
  unfold makeF
  repeat' (first | exact Det.no | exact Det.k _ _ | exact det_int _ _ _ _ | refine Det.ob fun _ => ?_ | refine Det.bind fun _ => ?_ | refine Det.chk ?_ | refine Det.br ?_ ?_ | refine Det.cond' ?_ ?_ | refine Det.dite (fun _ => ?_) (fun _ => ?_) | split)
theorem det_len (Γ : Tab) (σ : Sto) (s : TypeId) (x : V) : Det fun R K => lenF (R := R) Γ σ s x K := by
  unfold lenF
  repeat' (first | exact Det.no | exact Det.k _ _ | exact det_int _ _ _ _ | refine Det.ob fun _ => ?_ | refine Det.bind fun _ => ?_ | refine Det.chk ?_ | refine Det.br ?_ ?_ | refine Det.cond' ?_ ?_ | refine Det.dite (fun _ => ?_) (fun _ => ?_) | split)
theorem det_slice (Γ : Tab) (σ : Sto) (s : TypeId) (x : V) (lo hi mx : Option V) : Det fun R K => sliceF (R := R) Γ σ s x lo hi mx K := by
  unfold sliceF
  repeat' (first | exact Det.no | exact Det.k _ _ | exact det_int _ _ _ _ | refine Det.ob fun _ => ?_ | refine Det.bind fun _ => ?_ | refine Det.chk ?_ | refine Det.br ?_ ?_ | refine Det.cond' ?_ ?_ | refine Det.dite (fun _ => ?_) (fun _ => ?_) | split)
theorem det_app (Γ : Tab) (σ : Sto) (new : Option Id) (s s' : TypeId) (x y : V) : Det fun R K => appF (R := R) Γ σ new s s' x y K := by
  unfold appF
  repeat' (first | exact Det.no | exact Det.k _ _ | exact det_int _ _ _ _ | refine Det.ob fun _ => ?_ | refine Det.bind fun _ => ?_ | refine Det.chk ?_ | refine Det.br ?_ ?_ | refine Det.cond' ?_ ?_ | refine Det.dite (fun _ => ?_) (fun _ => ?_) | split)
theorem det_max (x y : V) : Det fun R K => maxF (R := R) x y K := by
  unfold maxF
  repeat' (first | exact Det.no | exact Det.k _ _ | exact det_int _ _ _ _ | refine Det.ob fun _ => ?_ | refine Det.bind fun _ => ?_ | refine Det.chk ?_ | refine Det.br ?_ ?_ | refine Det.cond' ?_ ?_ | refine Det.dite (fun _ => ?_) (fun _ => ?_) | split)
theorem det_min (x y : V) : Det fun R K => minF (R := R) x y K := by
  unfold minF
  repeat' (first | exact Det.no | exact Det.k _ _ | exact det_int _ _ _ _ | refine Det.ob fun _ => ?_ | refine Det.bind fun _ => ?_ | refine Det.chk ?_ | refine Det.br ?_ ?_ | refine Det.cond' ?_ ?_ | refine Det.dite (fun _ => ?_) (fun _ => ?_) | split)
theorem det_call1 (G : GTab) (σ : Sto) (dst : Option Nat) (F : FSum) (vs : List V) : Det fun R K => callF1 (R := R) G σ dst F vs K := by
  unfold callF1
  repeat' (first | exact Det.no | exact Det.k _ _ | exact det_int _ _ _ _ | refine Det.ob fun _ => ?_ | refine Det.bind fun _ => ?_ | refine Det.chk ?_ | refine Det.br ?_ ?_ | refine Det.cond' ?_ ?_ | refine Det.dite (fun _ => ?_) (fun _ => ?_) | split)
theorem Det.pre {f : (R : Type) → Kont R → Option R} (h : Det f) (u0 : Upd) : Det fun R K => f R fun v u => K v (u0 ++ u) := by
  intro R K r hr
  obtain ⟨v, u, h1, h2⟩ := h R _ r hr
  exact ⟨v, u0 ++ u, h1, fun R' K' => h2 R' _⟩
theorem det_call0 (G : GTab) (σ : Sto) (dst : Option Nat) (f : FuncId) (vs : List V) : Det fun R K => callF0 (R := R) G σ dst f vs K := by
  unfold callF0
  split
  · exact Det.cond' (Det.pre (det_call1 _ _ _ _ _) _) Det.no
  · exact Det.no
theorem det_row (σ : Sto) (F : FSum) (vs : List V) : Det fun R K => rowF (R := R) σ F vs K := by
  unfold rowF
  repeat' (first | exact Det.no | exact Det.k _ _ | exact det_int _ _ _ _ | refine Det.ob fun _ => ?_ | refine Det.bind fun _ => ?_ | refine Det.chk ?_ | refine Det.br ?_ ?_ | refine Det.cond' ?_ ?_ | refine Det.dite (fun _ => ?_) (fun _ => ?_) | split)
theorem det_call (G : GTab) (σ : Sto) (dst : Option Nat) (f : FuncId) (vs : List V) : Det fun R K => callF (R := R) G σ dst f vs K := by
  unfold callF
  split
  · exact Det.cond' (det_row _ _ _) (det_call0 _ _ _ _ _)
  · exact Det.no
theorem det_callS (G : GTab) (σ : Sto) (dst : Option Nat) (f : FuncId) (vs : List V) : Det fun R K => callS (R := R) G σ dst f vs K := by
  unfold callS
  split
  · exact det_call _ _ _ _ _
  · exact Det.no
theorem det_roFn1 (F : FSum) (captured : List V) : Det fun R K => roFn1 (R := R) F captured K := by
  unfold roFn1
  repeat' (first | exact Det.no | exact Det.k _ _ | exact det_int _ _ _ _ | refine Det.ob fun _ => ?_ | refine Det.bind fun _ => ?_ | refine Det.chk ?_ | refine Det.br ?_ ?_ | refine Det.cond' ?_ ?_ | refine Det.dite (fun _ => ?_) (fun _ => ?_) | split)
theorem det_roFn2 (F : FSum) (captured : List V) : Det fun R K => roFn2 (R := R) F captured K := by
  unfold roFn2
  repeat' (first | exact Det.no | exact Det.k _ _ | exact det_int _ _ _ _ | refine Det.ob fun _ => ?_ | refine Det.bind fun _ => ?_ | refine Det.chk ?_ | refine Det.br ?_ ?_ | refine Det.cond' ?_ ?_ | refine Det.dite (fun _ => ?_) (fun _ => ?_) | split)
theorem det_func (G : GTab) (fn : Fn) (first captured : List V) : Det fun R K => funcF (R := R) G fn first captured K := by
  unfold funcF
  repeat' (first | exact Det.no | exact Det.k _ _ | exact det_int _ _ _ _ | refine Det.ob fun _ => ?_ | refine Det.bind fun _ => ?_ | refine Det.chk ?_ | refine Det.br ?_ ?_ | refine Det.cond' ?_ ?_ | refine Det.dite (fun _ => ?_) (fun _ => ?_) | split)
theorem det_makeFunc (G : GTab) (fn : Fn) (first captured : List V) : Det fun R K => makeFuncF (R := R) G fn first captured K := by
  unfold makeFuncF
  repeat' (first | exact Det.no | exact det_func _ _ _ _ | exact det_roFn1 _ _ | exact det_roFn2 _ _ | refine Det.cond' ?_ ?_ | split)
theorem det_copy (Γ : Tab) (σ : Sto) (s s' : TypeId) (x y : V) : Det fun R K => copyF (R := R) Γ σ s s' x y K := by
  unfold copyF copyTo
  repeat' (first | exact Det.no | exact Det.k _ _ | refine Det.ob fun _ => ?_ | refine Det.chk ?_ | refine Det.cond' ?_ ?_ | split)
theorem det_clear (Γ : Tab) (σ : Sto) (s : TypeId) (x : V) : Det fun R K => clearF (R := R) Γ σ s x K := by
  unfold clearF
  repeat' (first | exact Det.no | exact Det.k _ _ | refine Det.cond' ?_ ?_ | split)
theorem det_store (Γ : Tab) (σ : Sto) (s : TypeId) (x v : V) : Det fun R K => storeF (R := R) Γ σ s x v K := by
  unfold storeF
  repeat' (first | exact Det.no | exact Det.k _ _ | exact det_storeEl _ _ _ _ _ | exact det_storePart _ _ _ _ _ _ | exact det_call _ _ _ _ _ | refine Det.ob fun _ => ?_ | refine Det.bind fun _ => ?_ | refine Det.chk ?_ | refine Det.br ?_ ?_ | refine Det.cond' ?_ ?_ | refine Det.dite (fun _ => ?_) (fun _ => ?_) | split)
theorem det_dyn (G : GTab) (σ : Sto) (dst : Option Nat) (f : V) (vs : List V) : Det fun R K => dynF (R := R) G σ dst f vs K := by
  unfold dynF
  repeat' (first | exact Det.no | exact Det.k _ _ | exact det_storeEl _ _ _ _ _ | exact det_storePart _ _ _ _ _ _ | exact det_call _ _ _ _ _ | exact det_callS _ _ _ _ _ | refine Det.ob fun _ => ?_ | refine Det.bind fun _ => ?_ | refine Det.chk ?_ | refine Det.br ?_ ?_ | refine Det.cond' ?_ ?_ | refine Det.dite (fun _ => ?_) (fun _ => ?_) | split)
theorem det_mkmap (Γ : Tab) (new : Option Id) (s : TypeId) : Det fun R K => mkMapF (R := R) Γ new s K := by
  unfold mkMapF
  repeat' (first | exact Det.no | exact Det.k _ _ | refine Det.ob fun _ => ?_ | refine Det.chk ?_ | refine Det.cond' ?_ ?_ | split)
theorem det_mapput (Γ : Tab) (σ : Sto) (s : TypeId) (m k v : V) : Det fun R K => mapPutF (R := R) Γ σ s m k v K := by
  unfold mapPutF
  repeat' (first | exact Det.no | exact Det.k _ _ | refine Det.ob fun _ => ?_ | refine Det.chk ?_ | refine Det.cond' ?_ ?_ | split)
theorem det_mapget (Γ : Tab) (σ : Sto) (s : TypeId) (m k : V) : Det fun R K => mapGetF (R := R) Γ σ s m k K := by
  unfold mapGetF
  repeat' (first | exact Det.no | exact Det.k _ _ | refine Det.ob fun _ => ?_ | refine Det.chk ?_ | refine Det.cond' ?_ ?_ | split)
theorem det_allocM (Γ : Tab) (new : Option Id) (s : TypeId) : Det fun R K => allocM (R := R) Γ new s K := by
  unfold allocM
  repeat' (first | exact Det.no | exact Det.k _ _ | exact det_box _ _ | refine Det.ob fun _ => ?_ | refine Det.chk ?_ | refine Det.cond' ?_ ?_ | split)
theorem det_matAddr (Γ : Tab) (s : TypeId) (id : Id) (j : Int) (i : V) : Det fun R K => matAddr (R := R) Γ s id j i K := by
  unfold matAddr
  repeat' (first | exact Det.no | exact Det.k _ _ | exact det_box _ _ | refine Det.ob fun _ => ?_ | refine Det.chk ?_ | refine Det.cond' ?_ ?_ | split)
theorem det_iaddrM (Γ : Tab) (σ : Sto) (s : TypeId) (x i : V) : Det fun R K => iaddrM (R := R) Γ σ s x i K := by
  unfold iaddrM
  repeat' (first | exact det_matAddr _ _ _ _ _ | exact det_iaddr _ _ _ _ _ | split)
theorem det_matLoad (Γ : Tab) (σ : Sto) (s : TypeId) (id : Id) (i : Int) : Det fun R K => matLoad (R := R) Γ σ s id i K := by
  unfold matLoad
  repeat' (first | exact Det.no | exact Det.k _ _ | exact det_box _ _ | refine Det.ob fun _ => ?_ | refine Det.chk ?_ | refine Det.cond' ?_ ?_ | split)
theorem det_loadM (Γ : Tab) (σ : Sto) (new : Option Id) (s : TypeId) (x : V) : Det fun R K => loadM (R := R) Γ σ new s x K := by
  unfold loadM
  repeat' (first | exact det_matLoad _ _ _ _ _ | exact det_load _ _ _ _ _ | split)
theorem det_matPut (Γ : Tab) (σ : Sto) (s : TypeId) (id : Id) (i : Int) (v : V) : Det fun R K => matPut (R := R) Γ σ s id i v K := by
  unfold matPut
  repeat' (first | exact Det.no | exact Det.k _ _ | exact det_box _ _ | refine Det.ob fun _ => ?_ | refine Det.chk ?_ | refine Det.cond' ?_ ?_ | split)
theorem det_matFill (Γ : Tab) (s : TypeId) (id : Id) (off : Nat) (xs : List Int) (v : V) : Det fun R K => matFill (R := R) Γ s id off xs v K := by
  unfold matFill
  repeat' (first | exact Det.no | exact Det.k _ _ | exact det_box _ _ | refine Det.ob fun _ => ?_ | refine Det.chk ?_ | refine Det.cond' ?_ ?_ | split)
theorem det_storeM (Γ : Tab) (σ : Sto) (s : TypeId) (x v : V) : Det fun R K => storeM (R := R) Γ σ s x v K := by
  unfold storeM
  repeat' (first | exact det_matPut _ _ _ _ _ _ | exact det_matFill _ _ _ _ _ _ | exact det_store _ _ _ _ _ | split)
theorem det_op (G : GTab) (Γ : Tab) (σ : Sto) (ρ : Operand → V) (o : Oper) : Det fun R K => opF (R := R) G Γ σ ρ o K := by
  unfold opF
  dsimp only
  repeat' (first | exact Det.no | exact Det.k _ _ | exact det_bin _ _ _ _ _ | exact det_un _ _ | exact det_pick _ _ _ | exact det_conv _ _ _ _ | exact det_extract _ _ | exact det_field _ _ _ _ | exact det_index _ _ _ _ | exact det_faddr _ _ _ _ | exact det_iaddrM _ _ _ _ _ | exact det_loadM _ _ _ _ _ | exact det_storeM _ _ _ _ _ | exact det_allocM _ _ _ | exact det_box _ _ | exact det_lit _ _ _ _ _ _ | exact det_build _ _ _ | exact det_make _ _ _ _ _ | exact det_len _ _ _ _ | exact det_slice _ _ _ _ _ _ _ | exact det_app _ _ _ _ _ _ _ | exact det_copy _ _ _ _ _ _ | exact det_clear _ _ _ _ | exact det_max _ _ | exact det_min _ _ | exact det_call _ _ _ _ _ | exact det_callS _ _ _ _ _ | exact det_dyn _ _ _ _ _ | exact det_makeFunc _ _ _ _ | exact det_mkmap _ _ _ | exact det_mapput _ _ _ _ _ _ | exact det_mapget _ _ _ _ _ | refine Det.cond' ?_ ?_ | split)

section
variable {P : Program} {Γ : Tab} {G : GTab} {ops : Array Oper}

theorem opF_congr {R : Type} {ρ ρ' : Operand → V} {σ : Sto} (o : Oper) (K : Kont R) (h : ∀ x ∈ o.op.operands, ρ x = ρ' x) : opF G Γ σ ρ o K = opF G Γ σ ρ' o K := by
  obtain ⟨dst, op, type, pos, after, guard⟩ := o
  have pairs : ∀ ps : Array (Nat × Operand), (∀ x ∈ ps.toList.map (·.2), ρ x = ρ' x) → (ps.toList.map fun p => (p.1, ρ p.2)) = (ps.toList.map fun p => (p.1, ρ' p.2)) := fun ps hp =>
    List.map_congr_left fun p hm => by rw [hp p.2 (List.mem_map.2 ⟨p, hm, rfl⟩)]
  cases op <;> simp only [Op.operands] at h <;> simp only [opF]
  case build t ps => rw [pairs ps fun x hx => h x (by simpa using hx)]
  case buildSlice t n ps => rw [pairs ps fun x hx => h x (by simpa using hx)]
  case makeFunc fn first captured =>
    rw [List.map_congr_left (l := first.toList) fun x hx => h x (by simp at hx; simp [hx]), List.map_congr_left (l := captured.toList) fun x hx => h x (by simp at hx; simp [hx])]
  case slice t x lo hi mx => cases lo <;> cases hi <;> cases mx <;> simp_all
  case call c =>
    have hargs : c.args.toList.map ρ = c.args.toList.map ρ' := List.map_congr_left fun x hx => h x (by simp at hx; simp [Call.operands, hx])
    rw [hargs]
    split <;> first | rfl | skip
    rename_i x _ hc
    rw [h x (by simp [Call.operands, hc])]
  case makeMap t r => cases r <;> rfl
  case lookup t x i ok =>
    have h1 := h x (by simp)
    have h2 := h i (by simp)
    cases ok <;> simp only [h1, h2]
  all_goals (first | rfl | (simp_all; done))

theorem runF_true {R : Type} (s : St) (o : Oper) (K : Kont R) : runF G Γ true s o K = opF G Γ (s.sto.only (opReach s o)) (opd s.env) o K := by
  unfold runF
  rfl
noncomputable def one (G : GTab) (Γ : Tab) (ops : Array Oper) (s : St) (o : Oper) : Option (V × Upd) := stepF G Γ true ops s o fun _ v u => some (v, u)

theorem step_det {R : Type} {r : R} {s : St} {o : Oper} {K : St → Kont R} (h : stepF G Γ true ops s o K = some r) : ∃ v u, one G Γ ops s o = some (v, u) ∧ K s v u = some r := by
  have run : ∀ {s' : St} (_ : s' = s), runF G Γ true s' o (K s') = some r → ∃ v u, runF G Γ true s' o (fun v u => some (v, u)) = some (v, u) ∧ K s v u = some r := fun {s'} e hr => by
    subst e
    obtain ⟨v, u, h1, h2⟩ := det_op G Γ (s'.sto.only (opReach s' o)) (opd s'.env) o R (K s') r ((runF_true _ _ _).symm.trans hr)
    exact ⟨v, u, (runF_true _ _ _).trans (h2 _ _), h1⟩
  unfold one
  unfold stepF at h ⊢
  split at h
  · exact run rfl h
  · rename_i j want hg
    dsimp only
    split at h
    · rename_i t ht
      split at h
      · rename_i he
        exact ⟨_, _, rfl, h⟩
      · rename_i b he
        cases b with
        | true =>
          cases want with
          | true => exact run (St.same he) h
          | false => exact ⟨_, _, rfl, by have e : ({ s with env := s.env.put (some t) (roV .bool true) } : St) = s := St.same he; exact (congrArg (fun z => K z (.one .undef) []) e) ▸ h⟩
        | false =>
          cases want with
          | true => exact ⟨_, _, rfl, by have e : ({ s with env := s.env.put (some t) (roV .bool false) } : St) = s := St.same he; exact (congrArg (fun z => K z (.one .undef) []) e) ▸ h⟩
          | false => exact run (St.same he) h
      · cases h
    · cases h

theorem boxIds_congr {σ σ' : Sto} : ∀ {l : List Id}, (∀ i ∈ l, σ i = σ' i) → boxIds σ l = boxIds σ' l := by
  intro l
  induction l with
  | nil => intro _; rfl
  | cons i l ih => intro h; simp only [boxIds, h i (by simp), ih fun j hj => h j (by simp [hj])]
theorem only_congr {σ σ' : Sto} {l : List Id} (h : ∀ i ∈ l, σ i = σ' i) : σ.only l = σ'.only l := by
  funext i
  unfold Sto.only
  cases hb : hasId l i with
  | false => rfl
  | true =>
    have : i ∈ l := by
      have key : ∀ l : List Id, hasId l i = true → i ∈ l := by
        intro l
        induction l with
        | nil => intro h; cases h
        | cons j l ih =>
          intro h
          unfold hasId at h
          cases hq : Nat.beq i j with
          | true => rw [beq_eq hq]; exact List.mem_cons_self ..
          | false => rw [hq] at h; exact List.mem_cons_of_mem _ (ih h)
      exact key l hb
    exact h i this

theorem one_congr {s s' : St} {o : Oper} (he : ∀ t ∈ o.looksAt ops, s'.env t = s.env t) (hs : ∀ i ∈ opReach s o, s'.sto i = s.sto i) :
    opReach s' o = opReach s o ∧ one G Γ ops s' o = one G Γ ops s o := by
  have hopd : ∀ x ∈ o.op.operands, opd s'.env x = opd s.env x := fun x hx => by
    cases x with
    | const v => unfold opd; split <;> simp_all
    | tmp t => exact he t (List.mem_append_left _ (List.mem_filterMap.2 ⟨.tmp t, by simpa using hx, rfl⟩))
    | _ => rfl
  have hm : o.op.operands.toList.map (opd s'.env) = o.op.operands.toList.map (opd s.env) := List.map_congr_left fun x hx => hopd x (by simpa using hx)
  have hr : opReach s' o = opReach s o := by
    have hs' := hs
    unfold opReach at hs' ⊢
    cases hmv : isMove o.op with
    | true => rfl
    | false =>
      rw [hmv] at hs'
      show reach s'.sto _ = reach s.sto _
      have hs2 : ∀ i ∈ reach s.sto (o.op.operands.toList.map (opd s.env)), s'.sto i = s.sto i := hs'
      unfold reach at hs2 ⊢
      rw [hm, boxIds_congr (σ := s'.sto) (σ' := s.sto) fun i hi => hs2 i (List.mem_append_left _ hi)]
  have run : ∀ {a b : St} (_ : a = s') (_ : b = s), runF G Γ true a o (fun v u => some (v, u)) = runF G Γ true b o (fun v u => some (v, u)) := fun {a b} ha hb => by
    subst ha hb
    rw [runF_true, runF_true, hr, only_congr hs]
    exact opF_congr o _ hopd
  refine ⟨hr, ?_⟩
  unfold one stepF
  cases hg : o.guard with
  | none => exact run rfl rfl
  | some gw =>
    obtain ⟨j, want⟩ := gw
    dsimp only
    cases ht : ob ops[j]? (·.dst) with
    | none => rfl
    | some t =>
      dsimp only
      have hte : s'.env t = s.env t := he t (by
        have ht' : (ops[j]?).bind (·.dst) = some t := by
          cases hj : ops[j]? with
          | none => rw [hj] at ht; cases ht
          | some o' => rw [hj] at ht; simpa [ob] using ht
        simp [Oper.looksAt, hg, ht'])
      rw [hte]
      cases hv : s.env t with
      | one c =>
        cases c with
        | undef => rfl
        | ro ty b =>
          cases ty with
          | bool =>
            have e1 : ∀ b', s.env t = .one (.ro .bool b') → ({ s' with env := s'.env.put (some t) (roV .bool b') } : St) = s' := fun b' hb => St.same (hte.trans hb)
            have e2 : ∀ b', s.env t = .one (.ro .bool b') → ({ s with env := s.env.put (some t) (roV .bool b') } : St) = s := fun b' hb => St.same hb
            have hv' : s.env t = .one (.ro .bool b) := hv
            dsimp only
            cases hb : (b : Bool) with
            | true =>
              have hv2 : s.env t = .one (.ro .bool true) := by rw [hv']; exact congrArg _ (congrArg _ hb)
              cases want with
              | true => exact run (e1 _ hv2) (e2 _ hv2)
              | false => rfl
            | false =>
              have hv2 : s.env t = .one (.ro .bool false) := by rw [hv']; exact congrArg _ (congrArg _ hb)
              cases want with
              | true => rfl
              | false => exact run (e1 _ hv2) (e2 _ hv2)
          | _ => rfl
        | _ => rfl
      | _ => rfl

theorem puts_off {u : Upd} : ∀ {σ : Sto} {j : Id}, j ∉ u.map (·.1) → (σ.puts u) j = σ j := by
  induction u with
  | nil => intro σ j _; rfl
  | cons p u ih =>
    intro σ j h
    simp only [List.map_cons, List.mem_cons, not_or] at h
    show ((σ.put p.1 p.2).puts u) j = σ j
    rw [ih h.2]
    show cond (Nat.beq j p.1) p.2 (σ j) = σ j
    rw [beq_ne h.1]
    rfl
theorem puts_on {u : Upd} : ∀ {σ σ' : Sto} {j : Id}, j ∈ u.map (·.1) → (σ.puts u) j = (σ'.puts u) j := by
  induction u with
  | nil => intro σ σ' j h; simp at h
  | cons p u ih =>
    intro σ σ' j h
    show ((σ.put p.1 p.2).puts u) j = ((σ'.put p.1 p.2).puts u) j
    by_cases hj : j ∈ u.map (·.1)
    · exact ih hj
    · rw [puts_off hj, puts_off hj]
      have : j = p.1 := by
        simp only [List.map_cons, List.mem_cons] at h
        exact h.resolve_right hj
      show cond (Nat.beq j p.1) p.2 (σ j) = cond (Nat.beq j p.1) p.2 (σ' j)
      rw [this, beq_self]
      rfl
theorem puts_comm {σ : Sto} {u v : Upd} (h : ∀ i ∈ u.map (·.1), i ∉ v.map (·.1)) : (σ.puts u).puts v = (σ.puts v).puts u := by
  funext j
  by_cases hu : j ∈ u.map (·.1)
  · rw [puts_off (h j hu)]
    exact puts_on hu
  · rw [puts_off (u := u) (σ := σ.puts v) hu]
    by_cases hv : j ∈ v.map (·.1)
    · exact puts_on hv
    · rw [puts_off hv, puts_off hv, puts_off hu]
theorem env_comm {e : Env} {d d' : Option Nat} {v v' : V} (h : ∀ t, d = some t → d' ≠ some t) : (e.put d v).put d' v' = (e.put d' v').put d v := by
  cases d with
  | none => rfl
  | some t =>
    cases d' with
    | none => rfl
    | some t' =>
      have hne : t ≠ t' := fun e => h t rfl (e ▸ rfl)
      funext j
      show cond (Nat.beq j t') v' (cond (Nat.beq j t) v (e j)) = cond (Nat.beq j t) v (cond (Nat.beq j t') v' (e j))
      by_cases h1 : j = t
      · subst h1; rw [beq_self, beq_ne hne]; rfl
      · rw [beq_ne h1]; rfl

structure Re where
  i : Nat
  o : Oper
  rs : List Id
  v : V
  u : Upd
def Re.rec' (ρ : Re) : Rec := ⟨ρ.i, ρ.o, ρ.rs, ρ.u.map (·.1)⟩

def Run (G : GTab) (Γ : Tab) (ops : Array Oper) : St → List Re → St → Prop
  | s, [], s' => s = s'
  | s, ρ :: l, s' => opReach s ρ.o = ρ.rs ∧ one G Γ ops s ρ.o = some (ρ.v, ρ.u) ∧ Run G Γ ops (s.step ρ.o.dst ρ.v ρ.u) l s'

structure Indep (ops : Array Oper) (p q : Re) : Prop where
  apart : Oper.apart ops p.o q.o = true
  pq : ∀ i ∈ p.u.map (·.1), i ∉ q.rs
  qp : ∀ i ∈ q.u.map (·.1), i ∉ p.rs
  uu : ∀ i ∈ p.u.map (·.1), i ∉ q.u.map (·.1)

theorem run_swap {s s' : St} {p q : Re} {l : List Re} (h : Run G Γ ops s (p :: q :: l) s') (hi : Indep ops p q) : Run G Γ ops s (q :: p :: l) s' := by
  obtain ⟨h1, h2, h3, h4, h5⟩ := h
  obtain ⟨a1, a2, a3⟩ := Oper.apart_spec hi.apart
  have envoff : ∀ {s : St} {d : Option Nat} {v : V} {u : Upd} {t : Nat}, (∀ d', d = some d' → d' ≠ t) → (s.step d v u).env t = s.env t := fun {s d v u t} h => by
    cases d with
    | none => rfl
    | some d' =>
      show cond (Nat.beq t d') v (s.env t) = s.env t
      rw [beq_ne (Ne.symm (h d' rfl))]
      rfl
  have q1 := one_congr (G := G) (Γ := Γ) (ops := ops) (s := s.step p.o.dst p.v p.u) (s' := s) (o := q.o) (fun t ht => (envoff fun d hd e => a1 d hd (e ▸ ht)).symm)
    (fun i hi' => by rw [h3] at hi'; exact (puts_off fun hm => hi.pq i hm hi').symm)
  have p1 := one_congr (G := G) (Γ := Γ) (ops := ops) (s := s) (s' := s.step q.o.dst q.v q.u) (o := p.o) (fun t ht => envoff fun d hd e => a3 d hd (e ▸ ht))
    (fun i hi' => by rw [h1] at hi'; exact puts_off fun hm => hi.qp i hm hi')
  refine ⟨q1.1.trans h3, q1.2.trans h4, p1.1.trans h1, p1.2.trans h2, ?_⟩
  have e : (s.step q.o.dst q.v q.u).step p.o.dst p.v p.u = (s.step p.o.dst p.v p.u).step q.o.dst q.v q.u := by
    unfold St.step
    dsimp only
    rw [env_comm (d := p.o.dst) (d' := q.o.dst) a2, puts_comm (u := p.u) (v := q.u) hi.uu]
  rw [e]
  exact h5

theorem run_front {q : Re} {l2 : List Re} {s' : St} : ∀ {l1 : List Re} {s : St}, Run G Γ ops s (l1 ++ q :: l2) s' → (∀ p ∈ l1, Indep ops p q) → Run G Γ ops s (q :: (l1 ++ l2)) s' := by
  intro l1
  induction l1 with
  | nil => intro s h _; exact h
  | cons p l1 ih =>
    intro s h hi
    obtain ⟨h1, h2, h3⟩ := h
    exact run_swap ⟨h1, h2, ih h3 fun p hp => hi p (by simp [hp])⟩ (hi p (by simp))

theorem backEdges_ok {i : Nat} : ∀ {l : List Edge}, backEdges i l = true → ∀ e ∈ l, Region.binds .any e = true → e.on < i := by
  intro l
  induction l with
  | nil => intro _ e h; simp at h
  | cons a l ih =>
    intro h e he hb
    obtain ⟨h1, h2⟩ := both_true.1 h
    rcases List.mem_cons.1 he with rfl | he
    · rw [hb] at h1; exact blt_lt h1
    · exact ih h2 e he hb
theorem backAll_ok : ∀ {l : List Oper} {n : Nat}, backAll n l = true → ∀ i o, l[i]? = some o → ∀ e ∈ o.after.toList, Region.binds .any e = true → e.on < n + i := by
  intro l
  induction l with
  | nil => intro n _ i o h; simp at h
  | cons a l ih =>
    intro n h i o ho e he hb
    obtain ⟨h1, h2⟩ := both_true.1 h
    cases i with
    | zero => simp at ho; subst ho; exact backEdges_ok h1 e he hb
    | succ i =>
      have := ih h2 i o (by simpa using ho) e he hb
      omega

theorem maskOf_ok {acc : List Nat} {o : Oper} {j : Nat} (h : (maskOf acc o).testBit j = true) : ∃ e ∈ o.after.toList, Region.binds .any e = true ∧ (j = e.on ∨ (acc.getD e.on 0).testBit j = true) := by
  unfold maskOf at h
  generalize o.after.toList = l at h ⊢
  induction l with
  | nil => simp at h
  | cons e l ih =>
    simp only [List.foldr_cons] at h
    cases hb : Region.binds .any e with
    | true =>
      rw [hb] at h
      simp only [cond_true, Nat.testBit_or, Bool.or_eq_true] at h
      rcases h with (h | h) | h
      · rw [Nat.testBit_two_pow] at h
        simp at h
        exact ⟨e, by simp, hb, .inl h.symm⟩
      · exact ⟨e, by simp, hb, .inr h⟩
      · obtain ⟨e', h1, h2, h3⟩ := ih h
        exact ⟨e', by simp [h1], h2, h3⟩
    | false =>
      rw [hb] at h
      obtain ⟨e', h1, h2, h3⟩ := ih h
      exact ⟨e', by simp [h1], h2, h3⟩

theorem masksGo_pre : ∀ (l : List Oper) (acc : List Nat), ∃ r, masksGo l acc = acc ++ r ∧ r.length = l.length := by
  intro l
  induction l with
  | nil => intro acc; exact ⟨[], by simp [masksGo], rfl⟩
  | cons o l ih =>
    intro acc
    obtain ⟨r, h1, h2⟩ := ih (acc ++ [maskOf acc o])
    exact ⟨maskOf acc o :: r, by simp [masksGo, h1], by simp [h2]⟩
theorem masks_ok : ∀ (l : List Oper) (acc : List Nat) (i : Nat) (o : Oper) (j : Nat), l[i]? = some o → ((masksGo l acc).getD (acc.length + i) 0).testBit j = true →
    ∃ e ∈ o.after.toList, Region.binds .any e = true ∧ (j = e.on ∨ ((masksGo l acc).getD e.on 0).testBit j = true) := by
  intro l
  induction l with
  | nil => intro acc i o j h; simp at h
  | cons a l ih =>
    intro acc i o j ho h
    have hgo : masksGo (a :: l) acc = masksGo l (acc ++ [maskOf acc a]) := rfl
    rw [hgo] at h ⊢
    cases i with
    | zero =>
      simp at ho
      subst ho
      obtain ⟨r, h1, h2⟩ := masksGo_pre l (acc ++ [maskOf acc a])
      rw [h1] at h ⊢
      have hg : ((acc ++ [maskOf acc a] ++ r).getD (acc.length + 0) 0) = maskOf acc a := by
        simp [List.getD, List.getElem?_append]
      rw [hg] at h
      obtain ⟨e, h3, h4, h5⟩ := maskOf_ok h
      refine ⟨e, h3, h4, h5.imp _root_.id fun h6 => ?_⟩
      have hlt : e.on < acc.length := by
        rcases Nat.lt_or_ge e.on acc.length with h | h
        · exact h
        · rw [List.getD, List.getElem?_eq_none h] at h6
          simp at h6
      have : ((acc ++ [maskOf acc a] ++ r).getD e.on 0) = acc.getD e.on 0 := by
        simp [List.getD, List.getElem?_append, hlt]
      rw [this]
      exact h6
    | succ i =>
      have := ih (acc ++ [maskOf acc a]) i o j (by simpa using ho) (by
        have e : (acc ++ [maskOf acc a]).length + i = acc.length + (i + 1) := by simp; omega
        rw [e]; exact h)
      exact this

theorem indep_ok {ms : List Nat} {p q : Re} (h : indep ops ms p.rec' q.rec' = true) (hm : (ms.getD q.i 0).testBit p.i = false) : Indep ops p q := by
  unfold indep at h
  rw [show ((ms.getD q.rec'.i 0).testBit p.rec'.i) = false from hm] at h
  simp only [cond_false, both_true] at h
  obtain ⟨⟨h1, h2⟩, ⟨h3, h4⟩⟩ := h
  exact ⟨h1, noneOf_ok h2, noneOf_ok h3, noneOf_ok h4⟩
theorem allIndep_ok {ms : List Nat} {q : Rec} : ∀ {l : List Rec}, allIndep ops ms l q = true → ∀ p ∈ l, indep ops ms p q = true := by
  intro l
  induction l with
  | nil => intro _ p h; simp at h
  | cons a l ih =>
    intro h p hp
    obtain ⟨h1, h2⟩ := both_true.1 h
    rcases List.mem_cons.1 hp with rfl | hp
    · exact h1
    · exact ih h2 p hp

theorem opsD_run {ms : List Nat} {R : Type} {r : R} {K : St → Option R} : ∀ {is : List Nat} {s : St} {acc : List Rec}, opsD G Γ ops ms is s acc K = some r →
    ∃ L sf, L.map (·.i) = is ∧ Run G Γ ops s L sf ∧ K sf = some r ∧ (∀ ρ ∈ L, ops[ρ.i]? = some ρ.o) ∧ (∀ p ∈ acc, ∀ q ∈ L, indep ops ms p q.rec' = true) ∧ L.Pairwise fun p q => indep ops ms p.rec' q.rec' = true := by
  intro is
  induction is with
  | nil => intro s acc h; exact ⟨[], s, rfl, rfl, h, by simp, by simp, List.Pairwise.nil⟩
  | cons i is ih =>
    intro s acc h
    unfold opsD at h
    split at h
    · rename_i o ho
      obtain ⟨v, u, h1, h2⟩ := step_det (K := fun s' v u => let me : Rec := ⟨i, o, opReach s o, u.map (·.1)⟩
        cond (allIndep ops ms acc me) (opsD G Γ ops ms is (s'.step o.dst v u) (me :: acc) K) none) h
      obtain ⟨h3, h4⟩ := cond_some h2
      obtain ⟨L, sf, k1, k2, k3, k4, k5, k6⟩ := ih h4
      have hacc := allIndep_ok h3
      refine ⟨⟨i, o, opReach s o, v, u⟩ :: L, sf, by simp [k1], ⟨rfl, h1, k2⟩, k3, fun ρ hρ => ?_, fun p hp q hq => ?_, List.Pairwise.cons (fun q hq => k5 _ (List.mem_cons_self ..) q hq) k6⟩
      · rcases List.mem_cons.1 hρ with rfl | hρ
        · exact ho
        · exact k4 ρ hρ
      · rcases List.mem_cons.1 hq with rfl | hq
        · exact hacc p hp
        · exact k5 p (by simp [hp]) q hq
    · cases h

theorem OkOps.perm {n : Nat} {new : Id → Prop} {l l' : List Oper} (h : OkOps Γ n new l) (hp : l.Perm l') : OkOps Γ n new l' :=
  ⟨fun o ho => h.new o (hp.mem_iff.2 ho), (hp.filterMap (dstN Γ)).nodup_iff.1 h.nodup, fun o ho => h.low o (hp.mem_iff.2 ho)⟩

theorem draw_go (hP : ProgOk P Γ) (hG : GOk P G) {ms : List Nat} {sf : St} {Q : Exit → Act → World → Prop}
    (hback : ∀ i o, ops[i]? = some o → ∀ e ∈ o.after.toList, Region.binds .any e = true → e.on < i)
    (hms : ∀ i o j, ops[i]? = some o → (ms.getD i 0).testBit j = true → ∃ e ∈ o.after.toList, Region.binds .any e = true ∧ (j = e.on ∨ (ms.getD e.on 0).testBit j = true)) :
    ∀ (fuel : Nat) {L : List Re} {listed : Array Bool} {B : Nat → Prop} {new : Id → Prop} {s : St} {a : Act} {w : World} {φ : Hd} {β : Bl}, Run G Γ ops s L sf → L.Pairwise (fun p q => indep ops ms p.rec' q.rec' = true) → (∀ ρ ∈ L, ops[ρ.i]? = some ρ.o) →
      L.length ≤ fuel → listed.size = ops.size → (∀ i, i < ops.size → (listed.getD i true = false ↔ i ∈ L.map (·.i))) → (L.map (·.i)).Pairwise (· < ·) →
      (∀ i, listed.getD i false = true → ∀ j, (ms.getD i 0).testBit j = true → listed.getD j false = true) → Rel P B new s a.tmps w φ β → OkOps Γ a.tmps.size new (L.map (·.o)) →
      (∀ a' w', After P B s a w β (leftL Γ new (L.map (·.o))) (asgOps (L.map (·.o))) sf a' w' → Q .normal a' w') → wpAny P .any ops Q fuel listed a w := by
  intro fuel
  have ready : ∀ {listed : Array Bool} {i : Nat}, i ∈ Region.ready .any ops listed ↔ i < ops.size ∧ listed.getD i true = false ∧ ∃ o, ops[i]? = some o ∧ ∀ e ∈ o.after.toList, Region.binds .any e = true → listed.getD e.on false = true := fun {listed i} => by
    unfold Region.ready
    rw [List.mem_filter, List.mem_range]
    constructor
    · rintro ⟨h1, h2⟩
      rw [Bool.and_eq_true] at h2
      obtain ⟨h2, h3⟩ := h2
      obtain ⟨o, ho⟩ : ∃ o, ops[i]? = some o := ⟨ops[i], Array.getElem?_eq_getElem h1⟩
      refine ⟨h1, by simpa using h2, o, ho, fun e he hb => ?_⟩
      rw [ho] at h3
      simp only [Option.map_some, Option.getD_some] at h3
      have := Array.all_eq_true'.1 h3 e (by simpa using he)
      rw [hb] at this
      simpa using this
    · rintro ⟨h1, h2, o, ho, h3⟩
      refine ⟨h1, ?_⟩
      rw [Bool.and_eq_true]
      refine ⟨by simp [h2], ?_⟩
      rw [ho]
      simp only [Option.map_some, Option.getD_some]
      refine Array.all_eq_true'.2 fun e he => ?_
      cases hb : Region.binds .any e with
      | false => rfl
      | true => simp only [Bool.not_true, Bool.false_or]; exact h3 e (by simpa using he) hb
  have getD_ne : ∀ {listed : Array Bool} {i : Nat}, listed.size = ops.size → i < ops.size → listed.getD i true = listed.getD i false := fun {listed i} h1 h2 => by
    have h3 : i < listed.size := h1 ▸ h2
    simp [Array.getD, h3]
  have hnil : ∀ {L : List Re} {listed : Array Bool} {B : Nat → Prop} {new : Id → Prop} {s : St} {a : Act} {w : World} {φ : Hd} {β : Bl}, Run G Γ ops s L sf → (∀ ρ ∈ L, ops[ρ.i]? = some ρ.o) → listed.size = ops.size →
      (∀ i, i < ops.size → (listed.getD i true = false ↔ i ∈ L.map (·.i))) → (L.map (·.i)).Pairwise (· < ·) → Rel P B new s a.tmps w φ β →
      (∀ a' w', After P B s a w β (leftL Γ new (L.map (·.o))) (asgOps (L.map (·.o))) sf a' w' → Q .normal a' w') → Region.ready .any ops listed = [] → Q .normal a w := fun {L listed B new s a w φ β} hrun hL hsz hlist hsort Rl hq hr => by
    cases L with
    | nil =>
      cases hrun
      exact hq a w ⟨B, φ, β, Rl.less fun _ h => h.1, Gr.refl _ _ _ _, rfl, rfl, Same.refl _ _⟩
    | cons ρ L =>
      have ho := hL ρ (by simp)
      have hlt : ρ.i < ops.size := (Array.getElem?_eq_some_iff.1 ho).1
      have hm : ρ.i ∈ Region.ready .any ops listed := ready.2 ⟨hlt, (hlist _ hlt).2 (by simp), ρ.o, ho, fun e he hb => by
        have hle := hback _ _ ho e he hb
        have hes : e.on < ops.size := Nat.lt_trans hle hlt
        rw [← getD_ne hsz hes]
        cases hq : listed.getD e.on true with
        | true => rfl
        | false =>
          have := (hlist _ hes).1 hq
          simp only [List.map_cons, List.mem_cons] at this
          rcases this with h | h
          · exact absurd (show ρ.i < ρ.i from h ▸ hle) (Nat.lt_irrefl _)
          · have h7 : ρ.i < e.on := (List.pairwise_cons.1 hsort).1 _ h
            exact absurd hle (Nat.lt_asymm h7)⟩
      rw [hr] at hm
      simp at hm
  induction fuel with
  | zero =>
    intro L listed B new s a w φ β hrun hpw hL hlen hsz hlist hsort hdown Rl hok hq
    have : L = [] := List.eq_nil_of_length_eq_zero (Nat.le_zero.1 hlen)
    subst this
    have hr : Region.ready .any ops listed = [] := List.eq_nil_iff_forall_not_mem.2 fun i hi => by
      obtain ⟨h1, h2, _⟩ := ready.1 hi
      have := (hlist i h1).1 h2
      simp at this
    exact ⟨hr, hnil hrun hL hsz hlist hsort Rl hq hr⟩
  | succ fuel ih =>
    intro L listed B new s a w φ β hrun hpw hL hlen hsz hlist hsort hdown Rl hok hq
    refine ⟨hnil hrun hL hsz hlist hsort Rl hq, fun i hi => ?_⟩
    obtain ⟨hlt, hnl, o, ho, hedge⟩ := ready.1 hi
    obtain ⟨q, hqL, hqi⟩ := List.mem_map.1 ((hlist i hlt).1 hnl)
    obtain ⟨l1, l2, rfl⟩ := List.append_of_mem hqL
    have hqo : q.o = o := by
      have := hL q (by simp)
      rw [hqi, ho] at this
      injection this with this
      exact this.symm
    subst hqi
    have hlisted : ∀ p ∈ l1 ++ l2, listed.getD p.i true = false := fun p hp => by
      have hp' : p ∈ l1 ++ q :: l2 := by rcases List.mem_append.1 hp with h | h <;> simp [h]
      exact (hlist p.i (Array.getElem?_eq_some_iff.1 (hL p hp')).1).2 (List.mem_map.2 ⟨p, hp', rfl⟩)
    have hbits : ∀ j, (ms.getD q.i 0).testBit j = true → listed.getD j false = true := fun j hj => by
      obtain ⟨e, h1, h2, h3⟩ := hms _ _ j ho hj
      rcases h3 with rfl | h3
      · exact hedge e h1 h2
      · exact hdown _ (hedge e h1 h2) j h3
    have hind : ∀ p ∈ l1, Indep ops p q := fun p hp => by
      refine indep_ok ((List.pairwise_append.1 hpw).2.2 p hp q (by simp)) ?_
      cases hb : (ms.getD q.i 0).testBit p.i with
      | false => rfl
      | true =>
        have h1 := hbits _ hb
        have h2 := hlisted p (by simp [hp])
        have hpl : p.i < ops.size := (Array.getElem?_eq_some_iff.1 (hL p (by simp [hp]))).1
        rw [getD_ne hsz hpl, h1] at h2
        cases h2
    obtain ⟨k1, k2, k3⟩ := run_front hrun hind
    have hperm : ((l1 ++ q :: l2).map (·.o)).Perm (q.o :: (l1 ++ l2).map (·.o)) := by
      have := (List.perm_middle (a := q) (l₁ := l1) (l₂ := l2)).map (·.o)
      simpa using this
    have hok' := hok.perm hperm
    unfold wpOp
    rw [ho]
    dsimp only
    rw [← hqo]
    refine step_sound (R := V × Upd) (r := (q.v, q.u)) (K := fun _ v u => some (v, u)) (drawn := true) hP hG Rl (hok'.new q.o (by simp)) k2 (Nxt.of (hok'.low q.o (by simp)) fun v u a' w' B' φ' β' hk Rl' hg hsz' hdf hsm => ?_)
    injection hk with hk
    injection hk with hk1 hk2
    subst hk1 hk2
    refine ih (L := l1 ++ l2) k3 ?_ (fun ρ hρ => hL ρ (by rcases List.mem_append.1 hρ with h | h <;> simp [h])) ?_ (by simp [hsz]) (fun j hj => ?_) ?_ (fun j hj k hk => ?_) Rl' (by rw [hsz']; exact hok'.tail) fun a'' w'' ⟨B'', φ'', β'', h1, h2, h3, h4, h5⟩ => hq a'' w'' ⟨B'', φ'', β'', h1.less fun j hj => ⟨⟨hj.1, fun hm => hj.2 q.o (by simp) hm⟩, fun o' ho' => hj.2 o' (hperm.mem_iff.2 (by simp at ho'; simp [ho']))⟩,
        hg.trans h2, by rw [h3, hsz'], by rw [h4, hdf], (hsm.mono fun t ht => List.mem_flatMap.2 ⟨q.o, by simp, ht⟩).trans (h5.mono fun t ht => by
          obtain ⟨o', h6, h7⟩ := List.mem_flatMap.1 ht
          exact List.mem_flatMap.2 ⟨o', hperm.mem_iff.2 (List.mem_cons_of_mem _ h6), h7⟩)⟩
    · have := List.pairwise_append.1 hpw
      exact List.pairwise_append.2 ⟨this.1, (List.pairwise_cons.1 this.2.1).2, fun a ha b hb => this.2.2 a ha b (by simp [hb])⟩
    · simp at hlen ⊢; omega
    · have hjs : j < listed.size := hsz ▸ hj
      by_cases hjq : j = q.i
      · subst hjq
        have e1 : (listed.setIfInBounds q.i true).getD q.i true = true := by simp [Array.getD, hjs]
        rw [e1]
        refine ⟨fun h => (by cases h), fun h => ?_⟩
        exfalso
        rw [List.map_append, List.map_cons] at hsort
        have hp := List.pairwise_append.1 hsort
        rw [List.map_append] at h
        rcases List.mem_append.1 h with h | h
        · have := hp.2.2 _ h q.i (by simp); omega
        · have := (List.pairwise_cons.1 hp.2.1).1 _ h; omega
      · have e1 : (listed.setIfInBounds q.i true).getD j true = listed.getD j true := by simp [Array.getD, hjs, Array.getElem_setIfInBounds, Ne.symm hjq]
        rw [e1, hlist j hj]
        constructor
        · intro h
          rw [List.map_append, List.map_cons] at h
          rw [List.map_append]
          rcases List.mem_append.1 h with h | h
          · exact List.mem_append_left _ h
          · rcases List.mem_cons.1 h with h | h
            · exact absurd h hjq
            · exact List.mem_append_right _ h
        · intro h
          rw [List.map_append] at h
          rw [List.map_append, List.map_cons]
          rcases List.mem_append.1 h with h | h
          · exact List.mem_append_left _ h
          · exact List.mem_append_right _ (List.mem_cons_of_mem _ h)
    · rw [List.map_append, List.map_cons] at hsort
      rw [List.map_append]
      have hp := List.pairwise_append.1 hsort
      exact List.pairwise_append.2 ⟨hp.1, (List.pairwise_cons.1 hp.2.1).2, fun a ha b hb => hp.2.2 a ha b (by simp [hb])⟩
    · have mono : ∀ k, listed.getD k false = true → (listed.setIfInBounds q.i true).getD k false = true := fun k hk => by
        by_cases hks : k < listed.size
        · by_cases hkq : q.i = k
          · subst hkq; simp [Array.getD, hks]
          · have e : (listed.setIfInBounds q.i true).getD k false = listed.getD k false := by simp [Array.getD, hks, Array.getElem_setIfInBounds, hkq]
            rw [e]; exact hk
        · simp [Array.getD, hks] at hk
      by_cases hjq : j = q.i
      · subst hjq
        exact mono k (hbits k hk)
      · refine mono k (hdown j ?_ k hk)
        by_cases hjs : j < listed.size
        · have e : (listed.setIfInBounds q.i true).getD j false = listed.getD j false := by simp [Array.getD, hjs, Array.getElem_setIfInBounds, Ne.symm hjq]
          rw [e] at hj; exact hj
        · simp [Array.getD, hjs] at hj

theorem draw_ok (hP : ProgOk P Γ) (hG : GOk P G) (ops : Array Oper) : DrawOk P Γ G ops := by
  intro R r K new B s a w φ β Q id Rl hok h hq
  unfold regF at h
  simp only [cond_true] at h
  obtain ⟨hb, h⟩ := cond_some h
  obtain ⟨L, sf, k1, k2, k3, k4, _, k6⟩ := opsD_run h
  have hLo : L.map (·.o) = ops.toList := by
    apply List.ext_getElem?
    intro i
    have hi : (L.map (·.i))[i]? = (List.range ops.size)[i]? := by rw [k1]
    rw [List.getElem?_map] at hi ⊢
    cases hLi : L[i]? with
    | none =>
      rw [hLi] at hi
      simp only [Option.map_none] at hi ⊢
      have := List.getElem?_eq_none_iff.1 hi.symm
      rw [List.length_range] at this
      exact (List.getElem?_eq_none (by simpa using this)).symm
    | some ρ =>
      rw [hLi] at hi
      simp only [Option.map_some] at hi ⊢
      obtain ⟨h1, h2⟩ := List.getElem?_eq_some_iff.1 hi.symm
      rw [List.getElem_range] at h2
      have h3 := k4 ρ (List.mem_of_getElem? hLi)
      rw [← h2] at h3
      rw [← h3]
      simp
  obtain ⟨⟨n0, g0⟩, R0⟩ := Rl.world (w' := { w with drawn := w.drawn + 1 }) ⟨rfl, rfl, rfl, Nat.le_succ _, Nat.le_refl _, fun _ _ _ => rfl⟩
  refine wp_region_any hP.mixed (draw_go hP hG (ms := masksGo ops.toList []) (sf := sf) (fun i o ho e he hbd => ?_) (fun i o j ho hj => ?_) ops.size k2 k6 k4 ?_ (by simp) (fun i hi => ?_) ?_ (fun i hi => ?_) R0 (by rw [hLo]; exact hok) fun a' w' ⟨B', φ', β', h1, h2, h3, h4, h5⟩ => hq sf a' w' k3 ⟨B', φ', β', by rw [hLo] at h1; exact h1, g0.trans h2, h3, h4, by rw [hLo] at h5; exact h5⟩)
  · have := backAll_ok hb i o (by simpa using ho) e he hbd
    omega
  · have := masks_ok ops.toList [] i o j (by simpa using ho) (by simpa using hj)
    exact this
  · have := congrArg List.length hLo
    simp at this
    omega
  · rw [k1]
    simp [Array.getD, hi]
  · rw [k1]
    exact List.pairwise_lt_range
  · by_cases h : i < ops.size
    · simp [Array.getD, h] at hi
    · simp [Array.getD, h] at hi
end
end Go.PV
