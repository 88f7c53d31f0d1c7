/- From a function's contract and a statement on pure data to a given row. -/
import Derived.Test.YtahehkidnfmfnaaGreatPvRead
import Derived.Carry
import Derived.Handed
import Derived.WalkKit
import Derived.ProofKit
set_option linter.all false
namespace Go.PV
open Go Go.ChangeShapes Go.WideShapes Go.ChangeAt Go.RowKit

def psOf (ts : List Ty) : List (Mode × Ty) := ts.map fun t => (.ro, t)
def WfA : (ts : List Ty) → argsT (psOf ts) → Prop
  | [], _ => True
  | t :: ts, x => Wf t x.1 ∧ WfA ts x.2

def readAll (P : Program) (Γ : Tab) (n : Nat) : List TypeId → List Ty → Bool
  | [], [] => true
  | τ :: τs, t :: ts => both (both (readB P Γ n τ) (elB Γ τ t)) (readAll P Γ n τs ts)
  | _, _ => false

section
variable {H : Type} {enc : TypeId × Value → H} {P : Program} {Γ : Tab} {W W' : World}

theorem okWide_mk {τ : TypeId} {d : TD} {base : Nat} {v : Value} (hΓ : TabOk P Γ) (hd : Γ τ = some d) (h : Value.okWide P W .any base τ v) : v = d.ty.mk v.cells.toList := by
  obtain ⟨i, z, u, I⟩ := hΓ τ d hd
  unfold Value.okWide at h
  rw [I.under] at h
  have ag := I.agg
  have no : d.ty.agg = false → Cell.okWide P W .any base τ v → v = d.ty.mk v.cells.toList := fun ha h => by
    rw [mk_of_no ha]
    cases v with
    | agg cs =>
      exfalso
      unfold Cell.okWide at h
      split at h <;> simp_all [Cell.ok]
    | _ => rfl
  cases u with
  | struct fields =>
    obtain ⟨cs, rfl, _⟩ := h
    unfold Ty.mk
    rw [← ag]
    simp [aggDesc, Value.cells]
  | array l e =>
    obtain ⟨cs, rfl, _⟩ := h
    unfold Ty.mk
    rw [← ag]
    simp [aggDesc, Value.cells]
  | _ => exact no (by rw [← ag]; rfl) h
where
  mk_of_no {t : Ty} (h : t.agg = false) {vs : List Value} : t.mk vs = vs.headD undef := by unfold Ty.mk; rw [h]; rfl

theorem args_rd (hΓ : TabOk P Γ) {n base : Nat} : ∀ {τs : List TypeId} {ts : List Ty} {vs : List Value} {ds : List (DataW H)} {p : List MemPlace}, readAll P Γ n τs ts = true → DataW.TrodAll enc P W 0 (fun _ => true) true τs vs ds p →
    (∀ (j : Nat) τ v, τs[j]? = some τ → vs[j]? = some v → Value.okWide P W .any base τ v) → ds.length = τs.length ∧ ∃ x : argsT (psOf ts), ArgsR P W (BW W) (psOf ts) vs x [] ∧ WfA ts x := by
  intro τs
  induction τs with
  | nil =>
    intro ts vs ds p h ht hv
    cases ts with
    | cons _ _ => cases h
    | nil =>
      obtain ⟨rfl, rfl, rfl⟩ := trodAll_nil ht
      exact ⟨rfl, (), rfl, trivial⟩
  | cons τ τs ih =>
    intro ts vs ds p h ht hv
    cases ts with
    | nil => cases h
    | cons t ts =>
      obtain ⟨h1, h2⟩ := both_true.1 h
      obtain ⟨h3, h4⟩ := both_true.1 h1
      obtain ⟨d, hd, rfl⟩ := elB_ok h4
      obtain ⟨v, vs', dd, ds', a, b, rfl, rfl, rfl, k1, k2⟩ := trodAll_cons ht
      obtain ⟨hl, y, k3, k4⟩ := ih h2 k2 fun j τ' v' hj hv' => hv (j + 1) τ' v' (by simpa using hj) (by simpa using hv')
      obtain ⟨fuel, k1⟩ := k1
      obtain ⟨x, k5, k6⟩ := trod_rd hΓ n τ d fuel _ _ h3 hd k1
      refine ⟨by simp [hl], (x, y), ⟨v.cells.toList, [], [], okWide_mk hΓ hd (hv 0 τ v rfl rfl), rfl, .inl ⟨rfl, k5, rfl⟩, k3⟩, k6, k4⟩

theorem args_stay (hl : laidOutB P = true) (hb : Fr W W' fun _ => True) {sp : Nat → Bool} : ∀ {τs : List TypeId} {vs : List Value} {ds : List (DataW H)} {p : List MemPlace}, allB (fun τ => both (P.readableRec τ) (Nat.blt τ P.types.size)) τs = true →
    DataW.TrodAll enc P W 0 (fun _ => true) true τs vs ds p → (∀ x ∈ p, x.block < W.heap.size) → (∀ x ∈ p, sp x.block = true) → DataW.TrodAll enc P W' 0 sp true τs vs ds p := by
  have hbelow : Below W.heap.size W W' := ⟨hb.os, hb.tape, hb.output, hb.size, fun k hk => hb.block k hk trivial⟩
  intro τs
  induction τs with
  | nil =>
    intro vs ds p _ ht _ _
    obtain ⟨rfl, rfl, rfl⟩ := trodAll_nil ht
    rfl
  | cons τ τs ih =>
    intro vs ds p hr ht hlt hsp
    obtain ⟨h1, h2⟩ := both_true.1 hr
    obtain ⟨h3, h4⟩ := both_true.1 h1
    obtain ⟨v, vs', dd, ds', a, b, rfl, rfl, rfl, k1, k2⟩ := trodAll_cons ht
    exact ⟨a, b, WideElems.Trod_stays hl h3 (blt_lt h4) k1 (fun x hx => hbelow.same (hlt x (List.mem_append_left _ hx))) (fun x hx => hsp x (List.mem_append_left _ hx)),
      ih h2 k2 (fun x hx => hlt x (List.mem_append_right _ hx)) (fun x hx => hsp x (List.mem_append_right _ hx)), rfl⟩

theorem law_contract (hΓ : TabOk P Γ) (hl : laidOutB P = true) {f : FuncId} {fn : Func} {s : ChangeSpec} {τs : List TypeId} {ts : List Ty} {tb : TypeId} {n : Nat} {apart fresh handsOn : Bool}
    {g : Nat → argsT (psOf ts) → Option (resT [(true, .bool)] × mutT (psOf ts))} (hpc : ∀ k, PC P f ⟨psOf ts, [(true, .bool)], g k⟩) (pure : ∀ x, WfA ts x → ∃ k m, g k x = some ((true, ()), m))
    (hps : fn.params = τs.toArray) (hrt : fn.resultTypes = #[tb]) (htb : P.underlying tb = some .bool) (hvars : s.vars = []) (hspec : ∀ ds : List (DataW H), ds.length = τs.length → s.fn H ds = { results := [.lit (.bool true)], args := ds })
    (hread : both (noSelf (psOf ts)) (readAll P Γ n τs ts) = true) (hrec : allB (fun τ => both (P.readableRec τ) (Nat.blt τ P.types.size)) τs = true)
    (base : Nat) (args : Array Value) (ds gs : List (DataW H)) (before : List MemPlace) (hval : ∀ (j : Nat) t v, fn.params[j]? = some t → args[j]? = some v → Value.okWide P W .any base t v)
    (hW : DataW.Whole enc P fn.params.toList s.vars apart W args.toList ds gs before) :
    Calls P f args W fun e W' => ∃ v, e = .returned v ∧ s.post enc P fn apart fresh handsOn false W args v W' := by
  have hlt : ∀ x ∈ before, x.block < W.heap.size := fun x hx => hW.lt x hx
  have hW' := hW
  obtain ⟨p, q, hA, hV, rfl, hfz, hnd⟩ := hW
  rw [hvars] at hV
  obtain ⟨rfl, rfl⟩ := trodVars_none hV
  rw [hps] at hA
  obtain ⟨hdl, x, k1, k2⟩ := args_rd (ts := ts) hΓ (both_true.1 hread).2 hA fun j τ v hj hv => hval j τ v (by rw [hps]; simpa using hj) (by simpa using hv)
  obtain ⟨k, m, hm⟩ := pure x k2
  have hc := (hpc k).2 W (BW W) args.toList x [] _ k1 (SelfOk.of (both_true.1 hread).1) List.nodup_nil (by simp) (fun b hb => hb) hm
  rw [Array.toArray_toList] at hc
  refine hc.mono ?_
  rintro e W' ⟨us, B', rbs, mbs, rfl, hres, _, hfr, _⟩
  have hus : us = [.bool true] := by
    cases us with
    | nil => exact False.elim hres
    | cons v us =>
      obtain ⟨cs, b1, b2, rfl, _, h1, h2⟩ := hres
      cases us with
      | cons _ _ => exact False.elim h2
      | nil =>
        rcases h1 with ⟨h, _⟩ | ⟨_, h1, _⟩
        · cases h
        · cases h1
          rfl
  subst hus
  have hfr' : Fr W W' fun _ => True := hfr.mono fun b _ => by simp
  have hbelow : Below W.heap.size W W' := ⟨hfr'.os, hfr'.tape, hfr'.output, hfr'.size, fun k hk => hfr'.block k hk trivial⟩
  refine ⟨.bool true, rfl, ds, [], p ++ [], [], p, [], hW', ?_, ?_, ?_, hbelow.frame _, fun h => by cases h⟩
  · rw [List.append_nil, hspec ds hdl, hrt]
    exact trodAll_mk1 (shut_bool htb true)
  · rw [List.append_nil, hspec ds hdl, hps]
    exact args_stay hl hfr' hrec hA (fun x hx => hlt x (by simpa using hx)) (fun x hx => by simpa using hlt x (by simpa using hx))
  · rw [List.append_nil, hspec ds hdl, hvars]
    rfl
end

def gOf : List (FuncId × FSum) → GTab
  | [] => fun _ => none
  | p :: r => fun f => cond (Nat.beq f p.1) (some p.2) (gOf r f)
def GAll (P : Program) : List (FuncId × FSum) → Prop
  | [] => True
  | p :: r => PC P p.1 p.2 ∧ GAll P r
theorem gOf_ok {P : Program} : ∀ {l : List (FuncId × FSum)}, GAll P l → GOk P (gOf l) := by
  intro l
  induction l with
  | nil => intro _ f F h; cases h
  | cons p l ih =>
    intro h f F hf
    unfold gOf at hf
    cases hb : Nat.beq f p.1 with
    | true =>
      rw [hb] at hf
      injection hf with hf
      subst hf
      have := beq_eq hb
      subst this
      exact h.1
    | false =>
      rw [hb] at hf
      exact ih h.2 f F hf

def LsOk (P : Program) (n : Nat) (c : Code) : Nat → List LSum → Prop
  | _, [] => True
  | i, l :: r => LoopOk P n l (loopAt c i) ∧ LsOk P n c (i + 1) r
theorem lsOk_go {P : Program} {n : Nat} {c : Code} : ∀ {L : List LSum} {o : Nat}, LsOk P n c o L → ∀ i l, L[i]? = some l → LoopOk P n l (loopAt c (o + i)) := by
  intro L
  induction L with
  | nil => intro o _ i l h; simp at h
  | cons a L ih =>
    intro o h i l hl
    cases i with
    | zero => simp at hl; subst hl; exact h.1
    | succ i =>
      have := ih h.2 i l (by simpa using hl)
      rw [show o + (i + 1) = o + 1 + i by omega]
      exact this
theorem lsOk_at {P : Program} {n : Nat} {c : Code} {L : List LSum} (h : LsOk P n c 0 L) : ∀ i, i < nloops c → ∀ l, L[i]? = some l → LoopOk P n l (loopAt c i) := fun i _ l hl => by
  have := lsOk_go h i l hl
  rwa [Nat.zero_add] at this

def rdI (xs : List Int) (i : Int) : Int := xs.getD i.toNat 0
def rdP (xs : List (Int × Int)) (i : Int) : Int × Int := xs.getD i.toNat (0, 0)
def rdL (xs : List (List Int)) (i : Int) : List Int := xs.getD i.toNat []
abbrev KS (ex : List (Ex × Sh)) (R : Type) : Type := (j : Nat) → ((ex.getD j (.ret, Sh.none)).2).T → Option R
def okF (Γ : Tab) (c : Code) (n : Nat) (ps : List (Mode × Ty)) : Bool := both (okC Γ c []).isSome (both (lowC n c) (both (Nat.ble ps.length n) (both (noneOf (mutSlots ps 0) (asgC c)) (Nat.ble (nOwn ps) 32))))
theorem pcF {P : Program} {Γ : Tab} {G : GTab} {L : List LSum} {f : FuncId} {fn : Func} {ps : List (Mode × Ty)} {rs : List (Bool × Ty)} {F : argsT ps → Option (resT rs × mutT ps)} (hP : ProgOk P Γ) (hG : GOk P G) (hent : Ent P f) (hf : P.funcs[f]? = some fn) (hrun : ∀ x, F x = funF G Γ L fn ps rs x)
    (hL : LsOk P fn.ntmps (fn.body.getD .skip) 0 L) (hb : fn.body.isSome = true) (hc : okF Γ (fn.body.getD .skip) fn.ntmps ps = true) : PC P f ⟨ps, rs, F⟩ := by
  have e : (⟨ps, rs, F⟩ : FSum) = ⟨ps, rs, funF G Γ L fn ps rs⟩ := congrArg (FSum.mk ps rs) (funext hrun)
  have hb2 : fn.body = some (fn.body.getD .skip) := by
    cases h : fn.body with
    | none => rw [h] at hb; cases hb
    | some c => rfl
  unfold okF at hc
  simp only [both_true] at hc
  obtain ⟨c1, c2, c3, c4, c5⟩ := hc
  rw [e]
  exact fun_ok hP hG (draw_ok hP hG) hent hf hb2 (lsOk_at hL) c1 c2 c3 c4 c5
theorem loopF {P : Program} {Γ : Tab} {G : GTab} {L : List LSum} {n : Nat} {c : Code} {sh : Sh} {ex : List (Ex × Sh)} {N : Nat} (F : (R : Type) → Nat → sh.T → KS ex R → Option R) (hP : ProgOk P Γ) (hG : GOk P G)
    (h0 : ∀ R x ks, F R 0 x ks = none) (hstep : ∀ R k x ks, F R (k + 1) x ks = roundF G Γ L c sh ex (fun y => F R k y ks) ks x) (hL : LsOk P n c 0 L) (hc : both (okC Γ c []).isSome (lowC n c) = true) : LoopOk P n ⟨sh, ex, fun {R} x ks => F R N x ks⟩ c := by
  rw [both_true] at hc
  exact loop_ok (l := ⟨sh, ex, fun {R} x ks => F R N x ks⟩) hP hG (draw_ok hP hG) (fun R k x ks => F R k x ks) h0 hstep (fun R x ks r h => ⟨N, h⟩) (lsOk_at hL) hc.1 hc.2
end Go.PV
