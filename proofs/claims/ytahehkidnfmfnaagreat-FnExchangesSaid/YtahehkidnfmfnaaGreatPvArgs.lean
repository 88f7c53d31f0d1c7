/- What is handed on in a call. -/
import Derived.Test.YtahehkidnfmfnaaGreatPvCall
set_option linter.all false
namespace Go.PV
open Go

section
variable {P : Program} {Γ : Tab} {G : GTab} {B : Nat → Prop} {new : Id → Prop} {s : St} {tmps : Array Value} {w : World} {φ : Hd} {β : Bl} {R : Type} {r : R} {σ σ0 : Sto}

theorem Gn_some {f : FuncId} {F : FSum} (h : Gn G f = some F) : G f = some F ∧ noSelf F.ps = true := by
  unfold Gn at h
  split at h
  · rename_i F' hF
    obtain ⟨h1, h2⟩ := cond_some h
    injection h2 with h2
    subst h2
    exact ⟨hF, h1⟩
  · cases h

theorem capC_rel (O : Obs P σ0 σ φ β w B) (hσ : ∀ id o, σ id = some o → σ0 id = some o) {t : Ty} {c : Cap} {self v : Value} {x : t.T} (hv : CapR P φ w B self c v) (h : capC σ t c = some x) :
    ∃ us, v = (Ty.ptr t).mk us ∧ Rd P (.ptr t) w (Bx σ β B) us x := by
  unfold capC at h
  split at h
  · obtain ⟨h3, g, rfl⟩ := hv
    exact asPtr_rel (v := .pointer (some ⟨g, 0, none⟩)) (c := .adr _ 0) O hσ ⟨g, h3, rfl⟩ h
  · obtain ⟨e, rfl⟩ := castT_some h
    subst e
    exact ⟨[v], rfl, Rd.mono (show Rd P (.ptr _) w B [v] _ from hv) fun b hb => .inl hb⟩
  · cases h

theorem capsT_rel (O : Obs P σ0 σ φ β w B) (hσ : ∀ id o, σ id = some o → σ0 id = some o) {Bc : Nat → Prop} (hB : ∀ b, Bx σ β B b → Bc b) {self : Value} : ∀ {ps : List (Mode × Ty)} {ids : List Cap} {vs : List Value} {x : argsT ps},
    vs.length = ids.length → (∀ (i : Nat) c u, ids[i]? = some c → vs[i]? = some u → CapR P φ w B self c u) → capsT σ ps ids = some x → ArgsR P w Bc ps vs x [] := by
  intro ps
  induction ps with
  | nil =>
    intro ids vs x hl hv h
    cases ids with
    | nil =>
      have : vs = [] := List.eq_nil_of_length_eq_zero (by simpa using hl)
      subst this
      rfl
    | cons i ids => simp [capsT] at h
  | cons p ps ih =>
    intro ids vs x hl hv h
    obtain ⟨m, t⟩ := p
    cases ids with
    | nil => cases m <;> cases t <;> simp [capsT] at h
    | cons i ids =>
      cases vs with
      | nil => simp at hl
      | cons v vs =>
        cases m <;> cases t <;> simp only [capsT] at h <;> first | (cases h; done) | skip
        rename_i t
        obtain ⟨y, h1, h⟩ := ob_some h
        obtain ⟨z, h2, h⟩ := ob_some h
        injection h with h
        subst h
        obtain ⟨us, h5, h6⟩ := capC_rel O hσ (hv 0 i v rfl rfl) h1
        exact ⟨us, [], [], h5, rfl, .inl ⟨rfl, h6.mono hB, rfl⟩, ih (by simpa using hl) (fun k c u hc hu => hv (k + 1) c u (by simpa using hc) (by simpa using hu)) h2⟩

theorem ArgsR.world {w w' : World} {B B' : Nat → Prop} (hf : Fr w w' B) (hB : ∀ b, B b → B' b) : ∀ {ps : List (Mode × Ty)} {vs : List Value} {x : argsT ps}, (∀ p ∈ ps, p.1 = .ro) → ArgsR P w B ps vs x [] → ArgsR P w' B' ps vs x [] := by
  intro ps
  induction ps with
  | nil => intro vs x _ h; cases vs <;> exact h
  | cons p ps ih =>
    intro vs x hp h
    obtain ⟨m, t⟩ := p
    cases vs with
    | nil => exact False.elim h
    | cons v vs =>
      have hm : m = .ro := hp (m, t) (by simp)
      subst hm
      obtain ⟨us, b1, b2, h1, h2, h3, h4⟩ := h
      obtain ⟨e1, e2⟩ := List.append_eq_nil_iff.1 h2.symm
      subst e1
      subst e2
      refine ⟨us, [], [], h1, rfl, .inl ?_, ih (fun p hq => hp p (by simp [hq])) h4⟩
      rcases h3 with ⟨_, h3, _⟩ | ⟨h3, _⟩
      · exact ⟨rfl, (h3.fr hf).mono hB, rfl⟩
      · exact absurd rfl h3

theorem capsT_ro : ∀ {ps : List (Mode × Ty)} {ids : List Cap} {x : argsT ps}, capsT σ ps ids = some x → ∀ p ∈ ps, p.1 = .ro := by
  intro ps
  induction ps with
  | nil => intro ids x _ p hp; simp at hp
  | cons q ps ih =>
    intro ids x h p hp
    obtain ⟨m, t⟩ := q
    cases ids with
    | nil => cases m <;> cases t <;> simp [capsT] at h
    | cons i ids =>
      cases m <;> cases t <;> simp only [capsT] at h <;> first | (cases h; done) | skip
      obtain ⟨y, h1, h⟩ := ob_some h
      obtain ⟨z, h2, h⟩ := ob_some h
      rcases List.mem_cons.1 hp with rfl | hp
      · rfl
      · exact ih h2 p hp

theorem PC.flat {f : FuncId} {ps : List (Mode × Ty)} {own : Bool} {rt : Ty} {g : argsT ps → Option (resT [(own, rt)] × mutT ps)} (h : PC P f ⟨ps, [(own, rt)], g⟩) (hf : rt.flat = true) {w : World} {vals : List Value} {x : argsT ps}
    {y : resT [(own, rt)] × mutT ps} (hns : noSelf ps = true) (ha : ArgsR P w (fun b => b < w.heap.size) ps vals x []) (hg : g x = some y) :
    Calls P f vals.toArray w fun e w' => ∃ us', e = .returned (rt.mk us') ∧ Rd P rt w' (fun _ => False) us' y.1.1 ∧ Fr w w' (fun _ => True) := by
  refine (h.2 w (fun b => b < w.heap.size) vals x [] y ha (SelfOk.of hns) (by simp) (by simp) (fun _ h => h) hg).mono ?_
  rintro e w' ⟨us, B', rbs, mbs, rfl, h1, _, h3, _⟩
  cases us with
  | nil => exact False.elim h1
  | cons v us =>
    cases us with
    | cons v' us =>
      obtain ⟨_, _, _, _, _, _, h⟩ := h1
      exact False.elim h
    | nil =>
      obtain ⟨us', b1, b2, h4, h5, h6, h7⟩ := h1
      refine ⟨us', by rw [← h4]; rfl, ?_, h3.mono fun b _ => by simp⟩
      rcases h6 with ⟨_, h6, _⟩ | ⟨_, h6⟩
      · exact h6.flat hf
      · cases rt <;> first | exact Rd.flat hf h6.1 | (cases hf; done) | skip
        rename_i a b
        -- a pair that is flat
        have key : ∀ {t : Ty} {us : List Value} {x : t.T} {bs : List Nat}, t.flat = true → OwT P t w' B' us x bs → Rd P t w' (fun _ => False) us x := by
          intro t
          induction t with
          | pair a b iha ihb =>
            intro us x bs hf h
            obtain ⟨u, v, b1, b2, rfl, _, h1, h2⟩ := h
            obtain ⟨f1, f2⟩ := both_true.1 hf
            exact ⟨u, v, rfl, iha f1 h1, ihb f2 h2⟩
          | list e t _ => intro us x bs hf; cases hf
          | rows e t _ => intro us x bs hf; cases hf
          | mptr t _ => intro us x bs hf; cases hf
          | kclo f t _ => intro us x bs hf; cases hf
          | rol e t _ => intro us x bs hf; cases hf
          | _ => intro us x bs hf h; exact h.1.flat hf
        exact key hf h6

theorem asFn1_rel (hG : GOk P G) (O : Obs P σ0 σ φ β w B) (hσ : ∀ id o, σ id = some o → σ0 id = some o) (hlow : ∀ b, Bx σ β B b → b < w.heap.size) {a rt : Ty} {c : C} {v : Value} {f : (Ty.fn1 a rt).T}
    (hv : CR P σ0 φ w B c v) (h : asFn G σ (.fn1 a rt) c = some f) : ∃ us, v = (Ty.fn1 a rt).mk us ∧ Rd P (.fn1 a rt) w (Bx σ β B) us f := by
  simp only [asFn] at h
  split at h
  · rename_i b x
    obtain ⟨us, rfl, hr⟩ := hv
    obtain ⟨e, rfl⟩ := castT_some h
    subst e
    exact ⟨us, rfl, hr.mono fun b hb => .inl hb⟩
  · rename_i fid caps
    split at h
    · rename_i a' ps own r' g hGf
      obtain ⟨cs, hcs, h⟩ := ob_some h
      split at h
      · rename_i hb
        injection h with h
        obtain ⟨hb1, hb2⟩ := both_true.1 hb
        obtain ⟨hb2, hb3⟩ := both_true.1 hb2
        have e1 := tyb_eq hb1
        have e2 := tyb_eq hb2
        subst e1
        subst e2
        obtain ⟨vs, rfl, hl, _, hvs⟩ := hv
        refine ⟨_, rfl, fid, #[], vs.toArray, rfl, (hG _ _ (Gn_some hGf).1).1, fun w' B' us x y hf hlow' hx hy => ?_⟩
        subst h
        obtain ⟨z, hz, hy⟩ := Option.bind_eq_some_iff.1 hy
        injection hy with hy
        have hca := capsT_rel O hσ (fun _ h => h) hl hvs hcs
        have hca' := ArgsR.world (B' := fun b => b < w'.heap.size) hf (fun b hb => Nat.lt_of_lt_of_le (hlow b hb) hf.size) (capsT_ro hcs) hca
        have harg : ArgsR P w' (fun b => b < w'.heap.size) ((.ro, a) :: ps) (a.mk us :: vs) (x, cs) [] := ⟨us, [], [], rfl, rfl, .inl ⟨rfl, hx.mono hlow', rfl⟩, hca'⟩
        have := PC.flat (hG _ _ (Gn_some hGf).1) hb3 (Gn_some hGf).2 harg hz
        subst hy
        simpa using this
      · cases h
    · cases h
  · rename_i fid b z
    split at h
    · rename_i b' a' own r' g hGf
      split at h
      · rename_i hb
        injection h with h
        obtain ⟨hb0, hb2⟩ := both_true.1 hb
        obtain ⟨hb2, hb3⟩ := both_true.1 hb2
        obtain ⟨hb1, hb4⟩ := both_true.1 hb0
        have e1 := tyb_eq hb1
        have e2 := tyb_eq hb2
        have e3 := tyb_eq hb4
        subst e1
        subst e2
        subst e3
        obtain ⟨us0, rfl, hz0⟩ := hv
        refine ⟨_, rfl, fid, #[b.mk us0], #[], rfl, (hG _ _ (Gn_some hGf).1).1, fun w' B' us x y hf hlow' hx hy => ?_⟩
        subst h
        obtain ⟨u, hu, hy⟩ := Option.bind_eq_some_iff.1 hy
        injection hy with hy
        have harg : ArgsR P w' (fun b => b < w'.heap.size) [(.ro, b), (.ro, a)] [b.mk us0, a.mk us] (z, x, ()) [] :=
          ⟨us0, [], [], rfl, rfl, .inl ⟨rfl, (hz0.fr (hf.mono fun b hb => .inl hb)).mono fun b hb => Nat.lt_of_lt_of_le (hlow b (.inl hb)) hf.size, rfl⟩, us, [], [], rfl, rfl, .inl ⟨rfl, hx.mono hlow', rfl⟩, rfl⟩
        have := PC.flat (hG _ _ (Gn_some hGf).1) hb3 (Gn_some hGf).2 harg hu
        subst hy
        simpa using this
      · cases h
    · cases h
  · cases h

theorem asFn2_rel (hG : GOk P G) (O : Obs P σ0 σ φ β w B) (hσ : ∀ id o, σ id = some o → σ0 id = some o) (hlow : ∀ b, Bx σ β B b → b < w.heap.size) {a b rt : Ty} {c : C} {v : Value} {f : (Ty.fn2 a b rt).T}
    (hv : CR P σ0 φ w B c v) (h : asFn G σ (.fn2 a b rt) c = some f) : ∃ us, v = (Ty.fn2 a b rt).mk us ∧ Rd P (.fn2 a b rt) w (Bx σ β B) us f := by
  simp only [asFn] at h
  split at h
  · rename_i b x
    obtain ⟨us, rfl, hr⟩ := hv
    obtain ⟨e, rfl⟩ := castT_some h
    subst e
    exact ⟨us, rfl, hr.mono fun b hb => .inl hb⟩
  · rename_i fid caps
    split at h
    · rename_i a' b' ps own r' g hGf
      obtain ⟨cs, hcs, h⟩ := ob_some h
      split at h
      · rename_i hb
        injection h with h
        obtain ⟨hb0, hb2⟩ := both_true.1 hb
        obtain ⟨hb2, hb3⟩ := both_true.1 hb2
        obtain ⟨hb1, hb4⟩ := both_true.1 hb0
        have e1 := tyb_eq hb1
        have e2 := tyb_eq hb2
        have e3 := tyb_eq hb4
        subst e1
        subst e2
        subst e3
        obtain ⟨vs, rfl, hl, _, hvs⟩ := hv
        refine ⟨_, rfl, fid, #[], vs.toArray, rfl, (hG _ _ (Gn_some hGf).1).1, fun w' B' us us2 x x2 y hf hlow' hx hx2 hy => ?_⟩
        subst h
        obtain ⟨z, hz, hy⟩ := Option.bind_eq_some_iff.1 hy
        injection hy with hy
        have hca := capsT_rel O hσ (fun _ h => h) hl hvs hcs
        have hca' := ArgsR.world (B' := fun b => b < w'.heap.size) hf (fun b hb => Nat.lt_of_lt_of_le (hlow b hb) hf.size) (capsT_ro hcs) hca
        have harg : ArgsR P w' (fun b => b < w'.heap.size) ((.ro, a) :: (.ro, b) :: ps) (a.mk us :: b.mk us2 :: vs) (x, x2, cs) [] :=
          ⟨us, [], [], rfl, rfl, .inl ⟨rfl, hx.mono hlow', rfl⟩, us2, [], [], rfl, rfl, .inl ⟨rfl, hx2.mono hlow', rfl⟩, hca'⟩
        have := PC.flat (hG _ _ (Gn_some hGf).1) hb3 (Gn_some hGf).2 harg hz
        subst hy
        simpa using this
      · cases h
    · cases h
  · rename_i fid d z
    split at h
    · rename_i d' a' b' own r' g hGf
      split at h
      · rename_i hb
        injection h with h
        obtain ⟨hb0, hb2⟩ := both_true.1 hb
        obtain ⟨hb2, hb3⟩ := both_true.1 hb2
        obtain ⟨hb1, hb4⟩ := both_true.1 hb0
        obtain ⟨hb4, hb5⟩ := both_true.1 hb4
        have e1 := tyb_eq hb1
        have e2 := tyb_eq hb2
        have e3 := tyb_eq hb4
        have e4 := tyb_eq hb5
        subst e1
        subst e2
        subst e3
        subst e4
        obtain ⟨us0, rfl, hz0⟩ := hv
        refine ⟨_, rfl, fid, #[d.mk us0], #[], rfl, (hG _ _ (Gn_some hGf).1).1, fun w' B' us us2 x x2 y hf hlow' hx hx2 hy => ?_⟩
        subst h
        obtain ⟨u, hu, hy⟩ := Option.bind_eq_some_iff.1 hy
        injection hy with hy
        have harg : ArgsR P w' (fun b => b < w'.heap.size) [(.ro, d), (.ro, a), (.ro, b)] [d.mk us0, a.mk us, b.mk us2] (z, x, x2, ()) [] :=
          ⟨us0, [], [], rfl, rfl, .inl ⟨rfl, (hz0.fr (hf.mono fun b hb => .inl hb)).mono fun b hb => Nat.lt_of_lt_of_le (hlow b (.inl hb)) hf.size, rfl⟩, us, [], [], rfl, rfl, .inl ⟨rfl, hx.mono hlow', rfl⟩,
            us2, [], [], rfl, rfl, .inl ⟨rfl, hx2.mono hlow', rfl⟩, rfl⟩
        have := PC.flat (hG _ _ (Gn_some hGf).1) hb3 (Gn_some hGf).2 harg hu
        subst hy
        simpa using this
      · cases h
    · cases h
  · cases h

theorem capsRo_rel {σ : Sto} : ∀ {ps : List (Mode × Ty)} {vs : List V} {vals : List Value} {x : argsT ps}, VsR P σ φ w B vs vals → capsRo ps vs = some x → ArgsR P w B ps vals x [] ∧ ∀ p ∈ ps, p.1 = .ro := by
  intro ps
  induction ps with
  | nil =>
    intro vs vals x hv h
    cases vs with
    | cons _ _ => simp [capsRo] at h
    | nil => cases vals with
      | nil => exact ⟨rfl, by simp⟩
      | cons _ _ => exact False.elim hv
  | cons q ps ih =>
    intro vs vals x hv h
    obtain ⟨m, t⟩ := q
    cases m with
    | ro =>
      cases vs with
      | nil => simp [capsRo] at h
      | cons v vs =>
        cases v with
        | one c =>
          cases c with
          | ro c y =>
            cases vals with
            | nil => exact False.elim hv
            | cons val vals =>
              obtain ⟨z, h1, h⟩ := ob_some (show ob (castT (a := c) t y) _ = some x from h)
              obtain ⟨u, h2, h⟩ := ob_some h
              injection h with h
              subst h
              obtain ⟨e, rfl⟩ := castT_some h1
              subst e
              obtain ⟨us, rfl, hr⟩ := hv.1
              obtain ⟨h3, h4⟩ := ih hv.2 h2
              refine ⟨⟨us, [], [], rfl, rfl, .inl ⟨rfl, hr, rfl⟩, h3⟩, fun p hp => ?_⟩
              rcases List.mem_cons.1 hp with rfl | hp
              · rfl
              · exact h4 p hp
          | _ => simp [capsRo] at h
        | _ => simp [capsRo] at h
    | _ => simp [capsRo] at h

theorem sim_roFn {σ : Sto} (hG : GOk P G) (hlow : ∀ b, B b → b < w.heap.size) {f : FuncId} {F : FSum} (hF : Gn G f = some F) {captured : List V} {vc : List Value} {K : Kont R} (hc : VsR P σ φ w B captured vc)
    (h : cond (Nat.beq (lenC F.ps) (lenC captured + 1)) (roFn1 F captured K) (cond (Nat.beq (lenC F.ps) (lenC captured + 2)) (roFn2 F captured K) none) = some r) :
    Gives P σ φ w B (Instr.makeFunc (.func f) #[] vc.toArray) K r := by
  have one : ∀ F, Gn G f = some F → roFn1 F captured K = some r → Gives P σ φ w B (Instr.makeFunc (.func f) #[] vc.toArray) K r := fun F hF h => by
    unfold roFn1 at h
    split at h
    · rename_i a ps own rt g
      obtain ⟨hfl, h⟩ := cond_some h
      obtain ⟨cs, hcs, h⟩ := ob_some h
      obtain ⟨k1, k2⟩ := capsRo_rel hc hcs
      refine ⟨_, .func (.func f) #[] vc.toArray, h, ⟨[.func (.func f) #[] vc.toArray], rfl, f, #[], vc.toArray, rfl, (hG _ _ (Gn_some hF).1).1, fun w' B' us x y hf hlow' hx hy => ?_⟩, rfl⟩
      obtain ⟨z, hz, hy⟩ := Option.bind_eq_some_iff.1 hy
      injection hy with hy
      have hca' := ArgsR.world (B' := fun b => b < w'.heap.size) hf (fun b hb => Nat.lt_of_lt_of_le (hlow b hb) hf.size) k2 k1
      have harg : ArgsR P w' (fun b => b < w'.heap.size) ((.ro, a) :: ps) (a.mk us :: vc) (x, cs) [] := ⟨us, [], [], rfl, rfl, .inl ⟨rfl, hx.mono hlow', rfl⟩, hca'⟩
      have := PC.flat (hG _ _ (Gn_some hF).1) hfl (Gn_some hF).2 harg hz
      subst hy
      simpa using this
    · cases h
  have two : ∀ F, Gn G f = some F → roFn2 F captured K = some r → Gives P σ φ w B (Instr.makeFunc (.func f) #[] vc.toArray) K r := fun F hF h => by
    unfold roFn2 at h
    split at h
    · rename_i a b ps own rt g
      obtain ⟨hfl, h⟩ := cond_some h
      obtain ⟨cs, hcs, h⟩ := ob_some h
      obtain ⟨k1, k2⟩ := capsRo_rel hc hcs
      refine ⟨_, .func (.func f) #[] vc.toArray, h, ⟨[.func (.func f) #[] vc.toArray], rfl, f, #[], vc.toArray, rfl, (hG _ _ (Gn_some hF).1).1, fun w' B' us us2 x x2 y hf hlow' hx hx2 hy => ?_⟩, rfl⟩
      obtain ⟨z, hz, hy⟩ := Option.bind_eq_some_iff.1 hy
      injection hy with hy
      have hca' := ArgsR.world (B' := fun b => b < w'.heap.size) hf (fun b hb => Nat.lt_of_lt_of_le (hlow b hb) hf.size) k2 k1
      have harg : ArgsR P w' (fun b => b < w'.heap.size) ((.ro, a) :: (.ro, b) :: ps) (a.mk us :: b.mk us2 :: vc) (x, x2, cs) [] :=
        ⟨us, [], [], rfl, rfl, .inl ⟨rfl, hx.mono hlow', rfl⟩, us2, [], [], rfl, rfl, .inl ⟨rfl, hx2.mono hlow', rfl⟩, hca'⟩
      have := PC.flat (hG _ _ (Gn_some hF).1) hfl (Gn_some hF).2 harg hz
      subst hy
      simpa using this
    · cases h
  cases hb : Nat.beq (lenC F.ps) (lenC captured + 1) with
  | true => rw [hb] at h; exact one F hF h
  | false =>
    rw [hb] at h
    exact two F hF (cond_some (show cond _ _ none = some r from h)).2
end
end Go.PV
