/- One operation: what the evaluator says of it, the machine does. -/
import Derived.Test.YtahehkidnfmfnaaGreatPvEnter
import Derived.Test.YtahehkidnfmfnaaGreatPvMap
import Derived.Test.YtahehkidnfmfnaaGreatPvMat
import Derived.Test.YtahehkidnfmfnaaGreatPvClear
set_option linter.all false
namespace Go.PV
open Go

section
variable {P : Program} {Γ : Tab} {G : GTab} {B : Nat → Prop} {new : Id → Prop} {s : St} {a : Act} {w : World} {φ : Hd} {β : Bl} {R : Type} {r : R}
  {dn : Option Nat} {next : Act → World → Prop} {Q : Exit → Act → World → Prop} {o : Oper}

theorem opd_rel (Rl : Rel P B new s a.tmps w φ β) (x : Operand) : VR P s.sto φ w B (opd s.env x) (a.eval x) := by
  cases x with
  | tmp t => exact Rl.env t
  | const v =>
    unfold opd
    split
    · rename_i e; cases e
    · rename_i k n e; cases e; exact cr_int k n
    · rename_i b e; cases e; exact cr_bool b
    · rename_i b e; cases e; exact ⟨[.string b], rfl, rfl⟩
    · rename_i e; cases e; rfl
    · trivial
    · rename_i e; cases e
    · rename_i e; cases e
  | func f => exact ⟨[], rfl, rfl, by simp, fun i c u h => by simp at h⟩
  | global g => trivial

def mine (d : Option Nat) (i : Id) : Prop := ∃ t, d = some t ∧ 32 * (t + 1) ≤ i ∧ i < 32 * (t + 1) + 32
def left (new : Id → Prop) (d : Option Nat) : Id → Prop := fun i => new i ∧ ¬ mine d i

def creates (Γ : Tab) (o : Oper) : Bool :=
  match o.op with
  | .load s _ => match Γ s with
    | some d => Nat.blt 0 (lists d.ty)
    | none => false
  | .box _ _ => true
  | .alloc _ => true
  | .buildSlice _ _ _ => true
  | .makeSlice _ _ _ => true
  | .call _ => true
  | .makeMap _ _ => true
  | _ => false
def dstN (Γ : Tab) (o : Oper) : Option Nat := cond (creates Γ o) o.dst none

def Nxt (P : Program) (B : Nat → Prop) (new : Id → Prop) (s : St) (a : Act) (w : World) (φ : Hd) (β : Bl) (K : Kont R) (r : R) (o : Oper) (dn : Option Nat) (next : Act → World → Prop) : Prop :=
  ∀ v u val w' B' φ' β', K v u = some r → VR P (s.sto.puts u) φ' w' B' v val → (Nx s.sto φ w B (s.sto.puts u) φ' w' B' ∧ Gr s.sto w B β (s.sto.puts u) w' B' β') → Rel P B' (left new dn) ⟨s.env, s.sto.puts u⟩ a.tmps w' φ' β' → next (a.put o.dst val) w'

theorem Rel.less {new' : Id → Prop} {tmps : Array Value} (Rl : Rel P B new s tmps w φ β) (h : ∀ i, new' i → new i) : Rel P B new' s tmps w φ β :=
  ⟨Rl.env, Rl.obj, Rl.sep, Rl.low, fun i hi => Rl.new i (h i hi)⟩

theorem Eff.done {new' : Id → Prop} {S : Sem Value} {K : Kont R} (h : Eff P B new' s a.tmps w φ β S K r) (hn : ∀ i, left new dn i → new' i) (hnext : Nxt P B new s a w φ β K r o dn next) :
    o.upon P a next Q ((do pure (Next.value (← S)) : Sem Next).run P w) := by
  obtain ⟨v, u, val, w', B', φ', β', h1, h2, h3, h4, h5⟩ := h
  simp only [Sem.run_bind, h2, Result.andThen_ok]
  exact hnext v u val w' B' φ' β' h1 h3 h4 (h5.less hn)

theorem Gives.done {S : Sem Value} {K : Kont R} (Rl : Rel P B new s a.tmps w φ β) (h : Gives P s.sto φ w B S K r) (hnext : Nxt P B new s a w φ β K r o dn next) :
    o.upon P a next Q ((do pure (Next.value (← S)) : Sem Next).run P w) :=
  Eff.done (h.eff (new' := left new dn) Rl fun _ h => h.1) (fun _ h => h) hnext

theorem EffU.done {S : Sem Unit} {K : Kont R} (h : EffU P B new s a.tmps w φ β S K r) (hnext : Nxt P B new s a w φ β K r o dn next) :
    o.upon P a next Q ((do S; pure Next.skip : Sem Next).run P w) := by
  obtain ⟨u, w', β', h1, h2, h3, h4⟩ := h
  simp only [Sem.run_bind, h2, Result.andThen_ok]
  exact hnext _ u undef w' B φ β' h1 trivial h3 (h4.less fun _ h => h.1)

theorem vsR_map (Rl : Rel P B new s a.tmps w φ β) : ∀ l : List Operand, VsR P s.sto φ w B (l.map (opd s.env)) (l.map a.eval) := by
  intro l
  induction l with
  | nil => trivial
  | cons x l ih => exact ⟨opd_rel Rl x, ih⟩
theorem psR_map (Rl : Rel P B new s a.tmps w φ β) : ∀ l : List (Nat × Operand), PsR P s.sto φ w B (l.map fun p => (p.1, opd s.env p.2)) (l.map fun p => (p.1, a.eval p.2)) := by
  intro l
  induction l with
  | nil => trivial
  | cons x l ih => exact ⟨rfl, opd_rel Rl x.2, ih⟩
theorem psR_arr (Rl : Rel P B new s a.tmps w φ β) (l : Array (Nat × Operand)) : PsR P s.sto φ w B (l.toList.map fun p => (p.1, opd s.env p.2)) (Array.map (fun x => (x.fst, a.eval x.snd)) l).toList := by
  have := psR_map Rl l.toList
  simpa using this
theorem bndR_map (Rl : Rel P B new s a.tmps w φ β) (x : Option Operand) : BndR P s.sto φ w B (x.map (opd s.env)) (x.map a.eval) := by
  cases x with
  | none => trivial
  | some x => exact opd_rel Rl x

theorem seq_parts {f : Operand → Value} : ∀ {k : Nat} {l : List (Nat × Operand)}, partsOk k l = true → Seq k (l.map fun p => (p.1, f p.2)) := by
  intro k l
  induction l generalizing k with
  | nil => intro _; trivial
  | cons p l ih =>
    intro h
    obtain ⟨h1, h2⟩ := both_true.1 h
    exact ⟨(beq_eq h1).symm, ih h2⟩

theorem seq_arr {f : Operand → Value} {l : Array (Nat × Operand)} (h : partsOk 0 l.toList = true) : Seq 0 (Array.map (fun x => (x.fst, f x.snd)) l).toList := by
  have := seq_parts (f := f) h
  simpa using this
theorem VsR.append {σ : Sto} : ∀ {vs us : List V} {xs ys : List Value}, VsR P σ φ w B vs xs → VsR P σ φ w B us ys → VsR P σ φ w B (vs ++ us) (xs ++ ys) := by
  intro vs
  induction vs with
  | nil => intro us xs ys h h'; cases xs with
    | nil => exact h'
    | cons x xs => exact False.elim h
  | cons v vs ih => intro us xs ys h h'; cases xs with
    | nil => exact False.elim h
    | cons x xs => exact ⟨h.1, ih h.2 h'⟩

theorem caps_vs {σ : Sto} {f : FuncId} {caps0 : List Cap} {v : Value} (hv : CloR P φ w B f caps0 v) : ∀ {caps : List Cap} {vs : List Value}, vs.length = caps.length → (∀ (i : Nat) c u, caps[i]? = some c → vs[i]? = some u → CapR P φ w B v c u) →
    VsR P σ φ w B (caps.map fun c => .one (Cap.c f caps0 c)) vs := by
  intro caps
  induction caps with
  | nil => intro vs hl _; cases vs with
    | nil => trivial
    | cons v vs => simp at hl
  | cons c caps ih => intro vs hl h; cases vs with
    | nil => simp at hl
    | cons u vs =>
      refine ⟨?_, ih (by simpa using hl) fun k c' u' hc hu => h (k + 1) c' u' (by simpa using hc) (by simpa using hu)⟩
      have := h 0 c u rfl rfl
      cases c with
      | id j => obtain ⟨h5, g, rfl⟩ := this; exact ⟨g, h5, rfl⟩
      | ro t x => exact ⟨[u], rfl, this⟩
      | me => obtain ⟨g, h5, h6, h7⟩ := this; exact ⟨g, _, h5, h6, h7, hv⟩
      | bad => trivial

theorem capsEq_ok : ∀ {l r : List Cap} {vs us : List Value} {v u : Value}, capsEq l r = true → vs.length = l.length → us.length = r.length → (∀ (i : Nat) c x, l[i]? = some c → vs[i]? = some x → CapR P φ w B v c x) →
    (∀ (i : Nat) c x, r[i]? = some c → us[i]? = some x → CapR P φ w B u c x) → vs = us := by
  intro l
  induction l with
  | nil =>
    intro r vs us v u h h1 h2 _ _
    cases r with
    | nil =>
      have e1 : vs = [] := List.eq_nil_of_length_eq_zero (by simpa using h1)
      have e2 : us = [] := List.eq_nil_of_length_eq_zero (by simpa using h2)
      rw [e1, e2]
    | cons _ _ => simp [capsEq] at h
  | cons c l ih =>
    intro r vs us v u h h1 h2 h3 h4
    cases c with
    | id i =>
      cases r with
      | nil => simp [capsEq] at h
      | cons c' r =>
        cases c' with
        | id j =>
          obtain ⟨hb, h'⟩ := both_true.1 h
          have hb := beq_eq hb
          clear h
          subst hb
          cases vs with
          | nil => simp at h1
          | cons x vs =>
            cases us with
            | nil => simp at h2
            | cons y us =>
              have e1 := (h3 0 _ x rfl rfl).1
              have e2 := (h4 0 _ y rfl rfl).1
              rw [e1] at e2
              injection e2 with e2
              have e3 := ih (vs := vs) (us := us) h' (by simpa using h1) (by simpa using h2) (fun k c x hc hx => h3 (k + 1) c x (by simpa using hc) (by simpa using hx)) (fun k c x hc hx => h4 (k + 1) c x (by simpa using hc) (by simpa using hx))
              rw [e2, e3]
        | _ => simp [capsEq] at h
    | _ => cases r <;> simp [capsEq] at h

theorem selfGo_ok {σr : Sto} (O : Obs P s.sto σr φ β w B) {f : FuncId} {k : Nat} {caps0 : List Cap} {cvs : List Value} (hcl : CloR P φ w B f caps0 (.func (.func f) #[] cvs.toArray)) (hl0 : cvs.length = caps0.length) (h0 : ∀ (i : Nat) c u, caps0[i]? = some c → cvs[i]? = some u → CapR P φ w B (.func (.func f) #[] cvs.toArray) c u) :
    ∀ {ps : List (Mode × Ty)} {cs : List Cap} {vs : List Value}, vs.length = cs.length → (∀ (i : Nat) c u, cs[i]? = some c → vs[i]? = some u → CapR P φ w B (.func (.func f) #[] cvs.toArray) c u) → selfGo σr f k caps0 ps cs = true →
      ∀ (i : Nat) m f' k', ps[i]? = some (m, .sptr f' k') → f' = f ∧ k' = k ∧ ∃ g, vs[i]? = some (.pointer (some ⟨g, 0, none⟩)) ∧ w.cell? ⟨g, 0, none⟩ = some (.func (.func f) #[] cvs.toArray) := by
  intro ps
  induction ps with
  | nil => intro cs vs _ _ _ i m f' k' hi; simp at hi
  | cons q ps ih =>
    intro cs vs hl hc h i m f' k' hi
    obtain ⟨mq, t⟩ := q
    cases cs with
    | nil => cases t <;> simp [selfGo] at h
    | cons c cs =>
      cases vs with
      | nil => simp at hl
      | cons u vs =>
        have tl : selfGo σr f k caps0 ps cs = true := by
          cases t <;> simp only [selfGo] at h <;> first | exact h | exact (both_true.1 (both_true.1 h).2).2
        cases i with
        | succ i =>
          obtain ⟨h1, h2, g, h3, h4⟩ := ih (by simpa using hl) (fun k c u hc' hu => hc (k + 1) c u (by simpa using hc') (by simpa using hu)) tl i m f' k' (by simpa using hi)
          exact ⟨h1, h2, g, by simpa using h3, h4⟩
        | zero =>
          simp only [List.getElem?_cons_zero, Option.some.injEq, Prod.mk.injEq] at hi
          obtain ⟨rfl, rfl⟩ := hi
          simp only [selfGo] at h
          obtain ⟨h1, h2⟩ := both_true.1 h
          obtain ⟨h3, h4⟩ := both_true.1 h1
          have h3 := beq_eq h3
          have h4 := beq_eq h4
          refine ⟨h3.symm, h4.symm, ?_⟩
          have hs := (both_true.1 h2).1
          have hcu := hc 0 c u rfl rfl
          unfold selfCap at hs
          split at hs
          · obtain ⟨g, h5, h6, h7⟩ := hcu
            exact ⟨g, by simp [h5], h7⟩
          · rename_i j
            split at hs
            · rename_i f2 caps2 ho
              obtain ⟨h5, h6⟩ := both_true.1 hs
              have h5 := beq_eq h5
              subst h5
              obtain ⟨h7, g, rfl⟩ := hcu
              obtain ⟨v', h8, g', cur, e, h9, h10, h11, h12⟩ := O j _ ho
              rw [h7] at h8
              injection h8 with h8
              subst h8
              injection h9 with h9
              injection h9 with h9
              injection h9 with h9
              subst h9
              obtain ⟨x, hx⟩ := List.length_eq_one_iff.1 (show cur.toList.length = 1 by rw [h12.1]; rfl)
              obtain ⟨us, rfl, k1, k2, k3⟩ := h12.2.2 0 _ x rfl (by rw [hx]; rfl)
              have := capsEq_ok h6 hl0 k1 h0 k3
              subst this
              refine ⟨g, rfl, ?_⟩
              rw [cell_of_heap h10, ← Array.getElem?_toList, hx]
              rfl
            · cases hs
          · cases hs

theorem selfOk_ok {σr : Sto} (O : Obs P s.sto σr φ β w B) {f : FuncId} {caps : List Cap} {cvs : List Value} (hcl : CloR P φ w B f caps (.func (.func f) #[] cvs.toArray)) (hl : cvs.length = caps.length) (hone : ∀ u ∈ cvs, u.oneCell' = true)
    (h0 : ∀ (i : Nat) c u, caps[i]? = some c → cvs[i]? = some u → CapR P φ w B (.func (.func f) #[] cvs.toArray) c u) {vals : List Value} {ps : List (Mode × Ty)} (h : selfOk σr f vals.length caps ps = true) : SelfOk f ps (vals ++ cvs) w := by
  obtain ⟨h1, h2⟩ := both_true.1 h
  intro i m f' k hi
  by_cases hlt : i < vals.length
  · have : (ps.take vals.length)[i]? = some (m, .sptr f' k) := by rw [List.getElem?_take, if_pos hlt]; exact hi
    exact absurd rfl (noSelf_ok h1 _ (List.mem_of_getElem? this) f' k)
  · have hge : vals.length ≤ i := Nat.le_of_not_lt hlt
    have hd : (ps.drop vals.length)[i - vals.length]? = some (m, .sptr f' k) := by rw [List.getElem?_drop, Nat.add_sub_cancel' hge]; exact hi
    obtain ⟨q1, q2, g, q3, q4⟩ := selfGo_ok O hcl hl h0 hl h0 h2 _ _ _ _ hd
    refine ⟨q1, g, by rw [List.getElem?_append_right hge]; exact q3, ?_⟩
    rw [q2, List.drop_left]
    exact ⟨q4, hone⟩

theorem call_done (hG : GOk P G) (Rl : Rel P B new s a.tmps w φ β) (hnew : ∀ d, o.dst = some d → ∀ j, j < 32 → new (32 * (d + 1) + j)) {σr : Sto} (hσ : ∀ id o, σr id = some o → s.sto id = some o)
    {f : FuncId} {vs : List V} {vals : List Value} {K : Kont R} (hv : VsR P s.sto φ w B vs vals) (hself : ∀ F, G f = some F → SelfOk f F.ps vals w) (h : callF G σr o.dst f vs K = some r) (hnext : Nxt P B new s a w φ β K r o o.dst next) :
    o.upon P a next Q ((callFunc f vals.toArray).run P w) := by
  have he : (callFunc f vals.toArray).run P w = .ok (.enter f vals.toArray) w := by
    unfold callF at h
    split at h
    · rename_i F hGf
      exact (hG _ _ hGf).1 _ _
    · cases h
  rw [he, Oper.upon_enter]
  refine (eff_call hG Rl hnew hσ hv hself h).mono ?_
  rintro e w' ⟨v, u, val, B', φ', β', rfl, h1, h2, h3, h4⟩
  exact hnext v u val w' B' φ' β' h1 h2 h3 (h4.less fun i hi => ⟨hi.1, fun d hd hm => hi.2 ⟨d, hd, hm⟩⟩)

theorem callS_done (hG : GOk P G) (Rl : Rel P B new s a.tmps w φ β) (hnew : ∀ d, o.dst = some d → ∀ j, j < 32 → new (32 * (d + 1) + j)) {σr : Sto} (hσ : ∀ id o, σr id = some o → s.sto id = some o)
    {f : FuncId} {vs : List V} {vals : List Value} {K : Kont R} (hv : VsR P s.sto φ w B vs vals) (h : callS G σr o.dst f vs K = some r) (hnext : Nxt P B new s a w φ β K r o o.dst next) :
    o.upon P a next Q ((callFunc f vals.toArray).run P w) := by
  unfold callS at h
  split at h
  · rename_i F hF
    obtain ⟨h1, h2⟩ := Gn_some hF
    refine call_done hG Rl hnew hσ hv (fun F' hF' => ?_) h hnext
    rw [h1] at hF'
    injection hF' with hF'
    subst hF'
    exact SelfOk.of h2
  · cases h

theorem Rel.bx_low (Rl : Rel P B new s a.tmps w φ β) {σr : Sto} (hσ : ∀ id o, σr id = some o → s.sto id = some o) : ∀ b, Bx σr β B b → b < w.heap.size := fun b hb => by
  rcases hb with hb | ⟨k, hk, hb⟩
  · exact Rl.low b hb
  · obtain ⟨o, ho⟩ := Option.ne_none_iff_exists'.1 hk
    obtain ⟨_, _, _, _, h4⟩ := Rl.obj k o (hσ _ _ ho)
    exact (h4 b hb).2

theorem fn_done (Rl : Rel P B new s a.tmps w φ β) {rt : Ty} {fid : FuncId} {vals : Array Value} {y : rt.T} {K : Kont R} (he : Ent P fid)
    (hc : Calls P fid vals w fun e w'' => ∃ us', e = .returned (rt.mk us') ∧ Rd P rt w'' (fun _ => False) us' y ∧ Fr w w'' (fun _ => True)) (h : K (roV rt y) [] = some r) (hnext : Nxt P B new s a w φ β K r o dn next) :
    o.upon P a next Q ((callFunc fid vals).run P w) := by
  rw [he, Oper.upon_enter]
  refine hc.mono ?_
  rintro e w' ⟨us', rfl, h1, h2⟩
  obtain ⟨n, R'⟩ := Rl.world h2
  exact hnext _ [] _ w' B φ β h ⟨us', rfl, h1.mono fun _ h => h.elim⟩ n (R'.less fun _ h => h.1)

theorem dyn_done (hG : GOk P G) (Rl : Rel P B new s a.tmps w φ β) (hnew : ∀ d, o.dst = some d → ∀ j, j < 32 → new (32 * (d + 1) + j)) {σr : Sto} (hσ : ∀ id o, σr id = some o → s.sto id = some o)
    {x : V} {vx : Value} {vs : List V} {vals : List Value} {K : Kont R} (hx : VR P s.sto φ w B x vx) (hv : VsR P s.sto φ w B vs vals) (h : dynF G σr o.dst x vs K = some r) (hnext : Nxt P B new s a w φ β K r o o.dst next) :
    o.upon P a next Q ((do let d ← Deferred.ofValue vx vals.toArray; invoke d.target d.args : Sem Next).run P w) := by
  unfold dynF at h
  split at h
  · rename_i at' rt g x1
    obtain ⟨u, h1, h⟩ := ob_some h
    obtain ⟨y, h2, h⟩ := Option.bind_eq_some_iff.1 h
    match vals, hv with
    | [val], hv =>
      obtain ⟨us0, rfl, fid, fst, caps, e, hent, hc⟩ := hx
      subst e
      obtain ⟨us, rfl, hr⟩ := asT_rel (Rl.obs hσ) hσ hv.1 h1
      have := hc w (Bx σr β B) us u y (Fr.refl _ _) (Rl.bx_low hσ) hr h2
      have hd := fn_done (o := o) (Q := Q) Rl hent this h hnext
      simpa [Ty.mk, Ty.agg, Deferred.ofValue, invoke] using hd
  · rename_i at' bt rt g x1 x2
    obtain ⟨u, h1, h⟩ := ob_some h
    obtain ⟨u2, h1', h⟩ := ob_some h
    obtain ⟨y, h2, h⟩ := Option.bind_eq_some_iff.1 h
    match vals, hv with
    | [val, val2], hv =>
      obtain ⟨us0, rfl, fid, fst, caps, e, hent, hc⟩ := hx
      subst e
      obtain ⟨us, rfl, hr⟩ := asT_rel (Rl.obs hσ) hσ hv.1 h1
      obtain ⟨us2, rfl, hr2⟩ := asT_rel (Rl.obs hσ) hσ hv.2.1 h1'
      have := hc w (Bx σr β B) us us2 u u2 y (Fr.refl _ _) (Rl.bx_low hσ) hr hr2 h2
      have hd := fn_done (o := o) (Q := Q) Rl hent this h hnext
      simpa [Ty.mk, Ty.agg, Deferred.ofValue, invoke] using hd
  · rename_i f caps
    split at h
    · rename_i F hF
      obtain ⟨hs, hK⟩ := cond_some h
      have hx0 := hx
      obtain ⟨cvs, rfl, hl, hone, hc⟩ := hx
      have hlen : lenC vs = vals.length := by rw [lenC_length]; exact hv.len.symm
      rw [hlen] at hs
      have hself := selfOk_ok (Rl.obs hσ) hx0 hl hone hc hs
      have := call_done (Q := Q) hG Rl hnew hσ (hv.append (caps_vs hx0 hl hc)) (fun F' hF' => by
        rw [hF] at hF'
        injection hF' with hF'
        subst hF'
        exact hself) hK hnext
      simpa [Deferred.ofValue, invoke] using this
    · cases h
  · rename_i f t x1
    obtain ⟨us, rfl, cvs, rfl, hr⟩ := hx
    have hs : VsR P s.sto φ w B ((split t x1).map V.one) cvs := by
      have key : ∀ {cs : List C} {us : List Value}, CsR P s.sto φ w B cs us → VsR P s.sto φ w B (cs.map V.one) us := by
        intro cs
        induction cs with
        | nil => intro us h; have : us = [] := List.eq_nil_of_length_eq_zero (by simpa using h.1); subst this; trivial
        | cons c cs ih =>
          intro us h
          cases us with
          | nil => have := h.1; simp at this
          | cons u us =>
            have h2 := h.drop 1
            exact ⟨h.2.2 0 c u rfl rfl, ih (by simpa using h2)⟩
      exact key (split_rel hr)
    have := callS_done (Q := Q) hG Rl hnew hσ (hv.append hs) h hnext
    simpa [Ty.mk, Ty.agg, Deferred.ofValue, invoke] using this
  · rename_i f t x1
    obtain ⟨us, rfl, hr⟩ := hx
    have hv' : VsR P s.sto φ w B (roV t x1 :: vs) (t.mk us :: vals) := ⟨⟨us, rfl, hr⟩, hv⟩
    have := callS_done (Q := Q) hG Rl hnew hσ hv' h hnext
    simpa [Deferred.ofValue, invoke] using this
  · cases h

theorem made_mine {o : Oper} {new : Id → Prop} (hnew : ∀ d, o.dst = some d → ∀ j, j < 32 → new (32 * (d + 1) + j)) {d : Nat} (hd : o.dst = some d) : new (32 * (d + 1)) ∧ ∀ i, left new o.dst i → new i ∧ i ≠ 32 * (d + 1) := by
  refine ⟨by simpa using hnew d hd 0 (Nat.succ_pos 31), fun i hi => ⟨hi.1, fun e => hi.2 ⟨d, hd, ?_⟩⟩⟩
  subst e
  exact ⟨Nat.le_refl _, Nat.lt_add_of_pos_right (by show (0 : Nat) < 32; decide)⟩

theorem callop_sound (hP : ProgOk P Γ) (hG : GOk P G) (Rl : Rel P B new s a.tmps w φ β) (hnew : ∀ d, o.dst = some d → ∀ j, j < 32 → new (32 * (d + 1) + j)) {σr : Sto} (hσ : ∀ id o, σr id = some o → s.sto id = some o)
    {K : Kont R} {c : Call} (h : (match c.callee, List.map (opd s.env) c.args.toList, c.argTypes.toList with
    | Callee.builtin Builtin.len, [x], [s] => lenF Γ σr s x K
    | Callee.builtin Builtin.append, [x, y], [s, s'] => appF Γ σr (Option.map (fun d => 32 * (d + 1)) o.dst) s s' x y K
    | Callee.builtin Builtin.copy, [x, y], [s, s'] => copyF Γ σr s s' x y K
    | Callee.builtin Builtin.clear, [x], [s] => clearF Γ σr s x K
    | Callee.builtin Builtin.max, [x, y], _ => maxF x y K
    | Callee.builtin Builtin.min, [x, y], _ => minF x y K
    | Callee.value (Operand.func f), vs, _ => callS G σr o.dst f vs K
    | Callee.value x, vs, _ => dynF G σr o.dst (opd s.env x) vs K
    | _, _, _ => none) = some r) (hnext : Nxt P B new s a w φ β K r o o.dst next) :
    o.upon P a next Q ((do let d ← resolve a.eval c o.type; invoke d.target d.args : Sem Next).run P w) := by
  have hΓ := hP.tab
  have O := Rl.obs hσ
  have ev := opd_rel Rl
  have hmake := @made_mine o new hnew
  have hargs : (c.args.map a.eval).toList = c.args.toList.map a.eval := by simp
  have hvs := vsR_map Rl c.args.toList
  have toA : ∀ {l : List Value}, (c.args.map a.eval).toList = l → c.args.map a.eval = l.toArray := fun h => by rw [← h]
  split at h
  · rename_i x s0 hc ha ht
    rw [ha] at hvs
    rw [← hargs] at hvs
    match hl : (c.args.map a.eval).toList, hvs with
    | [v], hvs =>
      have hA := toA hl
      have hT : c.argTypes = #[s0] := by apply Array.ext'; simpa using ht
      have := Gives.done (Q := Q) Rl (sim_len (ty := o.type) hΓ O hσ hvs.1 h) hnext
      simpa [resolve, hc, hA, hT, invoke, builtin] using this
  · rename_i x y s0 s1 hc ha ht
    rw [ha] at hvs
    rw [← hargs] at hvs
    match hl : (c.args.map a.eval).toList, hvs with
    | [v, v2], hvs =>
      have hA := toA hl
      have hT : c.argTypes = #[s0, s1] := by apply Array.ext'; simpa using ht
      cases hd : o.dst with
      | none => rw [hd] at h; simp [appF] at h
      | some d =>
        rw [hd] at h
        have := Eff.done (Q := Q) (eff_app (ty := o.type) hΓ Rl (hmake hd).1 hσ hvs.1 hvs.2.1 h) (hmake hd).2 hnext
        simpa [resolve, hc, hA, hT, invoke, builtin] using this
  · rename_i x y s0 s1 hc ha ht
    rw [ha] at hvs
    rw [← hargs] at hvs
    match hl : (c.args.map a.eval).toList, hvs with
    | [v, v2], hvs =>
      have hA := toA hl
      have hT : c.argTypes = #[s0, s1] := by apply Array.ext'; simpa using ht
      have := Eff.done (Q := Q) (eff_copy (ty := o.type) hΓ Rl hσ hvs.1 hvs.2.1 h) (fun _ h => h.1) hnext
      simpa [resolve, hc, hA, hT, invoke, builtin] using this
  · rename_i x s0 hc ha ht
    rw [ha] at hvs
    rw [← hargs] at hvs
    match hl : (c.args.map a.eval).toList, hvs with
    | [v], hvs =>
      have hA := toA hl
      have hT : c.argTypes = #[s0] := by apply Array.ext'; simpa using ht
      have := Eff.done (Q := Q) (eff_clear (ty := o.type) hΓ Rl hσ hvs.1 h) (fun _ h => h.1) hnext
      simpa [resolve, hc, hA, hT, invoke, builtin] using this
  · rename_i x y hc ha
    rw [ha] at hvs
    rw [← hargs] at hvs
    match hl : (c.args.map a.eval).toList, hvs with
    | [v, v2], hvs =>
      have hA := toA hl
      have := Gives.done (Q := Q) Rl (sim_max (ts := c.argTypes) (t := o.type) hvs.1 hvs.2.1 h) hnext
      simpa [resolve, hc, hA, invoke, builtin] using this
  · rename_i x y hc ha
    rw [ha] at hvs
    rw [← hargs] at hvs
    match hl : (c.args.map a.eval).toList, hvs with
    | [v, v2], hvs =>
      have hA := toA hl
      have := Gives.done (Q := Q) Rl (sim_min (ts := c.argTypes) (t := o.type) hvs.1 hvs.2.1 h) hnext
      simpa [resolve, hc, hA, invoke, builtin] using this
  · rename_i f hc
    have := callS_done (Q := Q) hG Rl hnew hσ hvs h hnext
    have e1 : (List.map a.eval c.args.toList).toArray = Array.map a.eval c.args := by apply Array.ext'; simp
    rw [e1] at this
    simpa [resolve, hc, Act.eval, Deferred.ofValue, invoke] using this
  · rename_i x _ hc
    have := dyn_done (Q := Q) hG Rl hnew hσ (ev x) hvs h hnext
    have e1 : (List.map a.eval c.args.toList).toArray = Array.map a.eval c.args := by apply Array.ext'; simp
    rw [e1] at this
    simpa [resolve, hc] using this
  · cases h

theorem litop_sound (hΓ : TabOk P Γ) (Rl : Rel P B new s a.tmps w φ β) (hnew : ∀ d, o.dst = some d → ∀ j, j < 32 → new (32 * (d + 1) + j)) {σr : Sto} (hσ : ∀ id o, σr id = some o → s.sto id = some o)
    {K : Kont R} {τ : TypeId} {len : Nat} {parts : Array (Nat × Operand)} (hp : partsOk 0 parts.toList = true)
    (h : litF Γ σr (Option.map (fun d => 32 * (d + 1)) o.dst) τ len (List.map (fun p => (p.fst, opd s.env p.snd)) parts.toList) K = some r) (hnext : Nxt P B new s a w φ β K r o o.dst next) :
    o.upon P a next Q ((do pure (Next.value (← Instr.buildSlice τ len (Array.map (fun x => (x.fst, a.eval x.snd)) parts))) : Sem Next).run P w) := by
  have hmake := @made_mine o new hnew
  cases hd : o.dst with
  | none => rw [hd] at h; simp [litF] at h
  | some d =>
    rw [hd, Option.map_some] at h
    have h1 := psR_arr Rl parts
    have h2 := seq_arr (f := a.eval) hp
    have h3 := eff_lit hΓ Rl (hmake hd).1 hσ h1 h2 h
    exact Eff.done h3 (hmake hd).2 hnext

theorem op_sound (hP : ProgOk P Γ) (hG : GOk P G) (Rl : Rel P B new s a.tmps w φ β) (hnew : ∀ d, dstN Γ o = some d → ∀ j, j < 32 → new (32 * (d + 1) + j)) {σr : Sto} (hσ : ∀ id o, σr id = some o → s.sto id = some o)
    {K : Kont R} (h : opF G Γ σr (opd s.env) o K = some r) (hnext : Nxt P B new s a w φ β K r o (dstN Γ o) next) : o.wp P a w next Q := by
  have hΓ := hP.tab
  have O := Rl.obs hσ
  have ev := opd_rel Rl
  have cr : creates Γ o = true → dstN Γ o = o.dst := fun h => by simp [dstN, h]
  unfold Oper.wp execOp
  unfold opF at h
  dsimp only at h ⊢
  split at h <;> first | (cases h; done) | (rename_i hop; rw [hop]; dsimp only)
  case h_1 => exact Gives.done (S := pure _) Rl ⟨_, _, h, ev _, rfl⟩ hnext
  case h_2 => exact Gives.done (S := pure _) Rl ⟨_, _, h, ev _, rfl⟩ hnext
  case h_3 =>
    have := Gives.done (Q := Q) Rl (sim_pick (ev _) (ev _) (ev _) h) hnext
    simpa using this
  case h_4 => exact Gives.done Rl (sim_bin hΓ (ev _) (ev _) h) hnext
  case h_5 => exact Gives.done Rl (sim_un (ev _) h) hnext
  case h_6 => exact Gives.done Rl (sim_conv hΓ (ev _) h) hnext
  case h_7 => exact Gives.done Rl (sim_extract (ev _) h) hnext
  case h_8 => exact Gives.done Rl (sim_field hΓ (ev _) h) hnext
  case h_9 => exact Gives.done Rl (sim_index hΓ (ev _) (ev _) h) hnext
  case h_10 => exact Gives.done Rl (sim_faddr hΓ (ev _) h) hnext
  case h_11 s0 x0 i0 =>
    have h1 := ev x0
    unfold iaddrM at h
    split at h
    · rename_i id j hx
      rw [hx] at h1
      obtain ⟨g, q1, q2, q3⟩ := h1
      exact Gives.done Rl (sim_mataddr hΓ q1 q2 q3 (ev _) h) hnext
    · rename_i id off hx
      rw [hx] at h1
      split at h
      · obtain ⟨g, q1, q2⟩ := h1
        exact Gives.done Rl (sim_mataddr (j := (off : Int)) hΓ q1 (Int.natCast_nonneg _) (by rw [q2, Int.toNat_natCast]) (ev _) h) hnext
      · exact Gives.done Rl (sim_iaddr hΓ O hσ h1 (ev _) h) hnext
    · exact Gives.done Rl (sim_iaddr hΓ O hσ h1 (ev _) h) hnext
  case h_12 s0 x0 =>
    unfold loadM at h
    split at h
    case h_1 id i hx =>
      have h1 := ev x0
      rw [hx] at h1
      exact Gives.done Rl (sim_matload hΓ O h1 h) hnext
    by_cases hm : ∃ id off a y, opd s.env x0 = .one (.adr id off) ∧ σr id = some (.mbox a y)
    · obtain ⟨id, off, at', y, e1, e2⟩ := hm
      have h1 := ev x0
      rw [e1] at h1
      unfold loadF at h
      split at h
      · rename_i d hd
        rw [e1] at h
        simp only [e2] at h
        by_cases hl0 : lists at' = 0
        · exact Eff.done (eff_open0 hΓ Rl hd (hσ _ _ e2) h1 hl0 h) (fun i hi => hi.1) hnext
        have hlb : Nat.beq (lists at') 0 = false := by cases hq : Nat.beq (lists at') 0 with | false => rfl | true => exact absurd (beq_eq hq) hl0
        cases hdst : o.dst with
        | none => rw [hdst] at h; simp [openF, hlb] at h
        | some d0 =>
          rw [hdst] at h
          simp only [Option.map_some] at h
          have hl : lists at' = lists d.ty := by
            unfold openF at h
            rw [hlb] at h
            obtain ⟨hb, _⟩ := cond_some (show cond _ _ _ = some r from h)
            rw [tyb_eq (both_true.1 (both_true.1 hb).1).2]
          have hdn : 0 < lists at' → dstN Γ o = o.dst := fun h0 => cr (by
            simp only [creates, hop, hd]
            rw [← hl]
            exact Nat.ble_eq_true_of_le h0)
          have := eff_open hΓ Rl (d0 := 32 * (d0 + 1)) (fun hle j hj => hnew d0 (by rw [hdn (Nat.lt_of_le_of_lt (Nat.zero_le _) hj), hdst]) j (Nat.lt_of_lt_of_le hj hle)) hd (hσ _ _ e2) h1 hl0 h
          refine Eff.done this (fun i hi => ⟨hi.1, fun hm => ?_⟩) hnext
          rcases Nat.eq_zero_or_pos (lists at') with h0 | h0
          · rw [h0] at hm; exact absurd hm.2 (Nat.not_lt_of_le hm.1)
          · refine hi.2 ⟨d0, by rw [hdn h0, hdst], hm.1, Nat.lt_of_lt_of_le hm.2 (Nat.add_le_add_left ?_ _)⟩
            unfold openF at h
            rw [hlb] at h
            obtain ⟨hb, _⟩ := cond_some (show cond _ _ _ = some r from h)
            exact ble_le (both_true.1 hb).2
      · cases h
    · exact Gives.done Rl (sim_load hΓ O hσ (ev _) (fun id off a y e1 e2 => hm ⟨id, off, a, y, e1, e2⟩) h) hnext
  case h_13 s0 x0 v0 =>
    have h1 := ev x0
    unfold storeM at h
    split at h
    · rename_i id i hx
      rw [hx] at h1
      exact EffU.done (eff_matput hΓ Rl hσ h1 (ev _) h) hnext
    · rename_i id off hx
      rw [hx] at h1
      split at h
      · rename_i xs ho
        exact EffU.done (eff_matfill hΓ Rl (hσ _ _ ho) h1 (ev _) h) hnext
      · exact EffU.done (eff_store hΓ Rl hσ h1 (ev _) h) hnext
    · exact EffU.done (eff_store hΓ Rl hσ h1 (ev _) h) hnext
  case h_14 =>
    rw [cr (by simp [creates, hop])] at hnew hnext
    have hmake := @made_mine o new hnew
    cases hd : o.dst with
    | none => rw [hd] at h; simp [boxF] at h
    | some d =>
      rw [hd] at h
      exact Eff.done (eff_box Rl (hmake hd).1 (ev _) h) (hmake hd).2 hnext
  case h_15 =>
    rw [cr (by simp [creates, hop])] at hnew hnext
    have hmake := @made_mine o new hnew
    cases hd : o.dst with
    | none =>
      rw [hd, Option.map_none, allocM_none] at h
      cases h
    | some d =>
      rw [hd] at h
      exact Eff.done (eff_allocM hΓ Rl (hmake hd).1 h) (hmake hd).2 hnext
  case h_16 =>
    rw [cr (by simp [creates, hop])] at hnew hnext
    have hmake := @made_mine o new hnew
    obtain ⟨hp, h⟩ := cond_some h
    exact litop_sound hΓ Rl hnew hσ hp h hnext
  case h_17 s0 parts =>
    exact Gives.done Rl (sim_build hΓ (vparts := Array.map (fun x => (x.fst, a.eval x.snd)) parts) (psR_arr Rl parts) h) hnext
  case h_18 =>
    rw [cr (by simp [creates, hop])] at hnew hnext
    have hmake := @made_mine o new hnew
    cases hd : o.dst with
    | none => rw [hd] at h; simp [makeF] at h
    | some d =>
      rw [hd] at h
      exact Eff.done (eff_make hΓ Rl (hmake hd).1 (ev _) (ev _) h) (hmake hd).2 hnext
  case h_19 => exact Gives.done Rl (sim_slice hΓ O hσ (ev _) (bndR_map Rl _) (bndR_map Rl _) (bndR_map Rl _) h) hnext
  case h_20 =>
    rename_i fn first captured
    have hgv : Gives P s.sto φ w B (Instr.makeFunc fn (List.map a.eval first.toList).toArray (List.map a.eval captured.toList).toArray) K r := by
      unfold makeFuncF at h
      split at h
      · rename_i f hf1 _
        split at h
        · rename_i F hF
          have e0 : first.toList = [] := List.map_eq_nil_iff.1 hf1
          rw [e0]
          exact sim_roFn hG Rl.low hF (vsR_map Rl captured.toList) h
        · cases h
      · exact sim_func (vsR_map Rl first.toList) (vsR_map Rl captured.toList) h
    have := Gives.done (Q := Q) Rl hgv hnext
    have e1 : (first.toList.map a.eval).toArray = Array.map a.eval first := by apply Array.ext'; simp
    have e2 : (captured.toList.map a.eval).toArray = Array.map a.eval captured := by apply Array.ext'; simp
    rw [e1, e2] at this
    exact this
  case h_21 =>
    split at h
    · rename_i id off hx
      have h1 := ev ‹Operand›
      rw [hx] at h1
      obtain ⟨g, h2, h3⟩ := h1
      rw [h3]
      dsimp only
      rw [← h3]
      exact Gives.done (S := pure _) Rl ⟨_, _, h, ⟨g, h2, h3⟩, rfl⟩ hnext
    · cases h
  case h_22 =>
    rw [cr (by simp [creates, hop])] at hnew hnext
    exact callop_sound hP hG Rl hnew hσ h hnext
  case h_23 =>
    rw [cr (by simp [creates, hop])] at hnew hnext
    have hmake := @made_mine o new hnew
    cases hd : o.dst with
    | none => rw [hd] at h; simp [mkMapF] at h
    | some d =>
      rw [hd] at h
      exact Eff.done (eff_mkmap hΓ Rl (hmake hd).1 h) (hmake hd).2 hnext
  case h_24 => exact EffU.done (eff_mapput hΓ Rl hσ (ev _) (ev _) (ev _) h) hnext
  case h_25 => exact Gives.done Rl (sim_mapget hΓ O (ev _) (ev _) h) hnext
end
end Go.PV
