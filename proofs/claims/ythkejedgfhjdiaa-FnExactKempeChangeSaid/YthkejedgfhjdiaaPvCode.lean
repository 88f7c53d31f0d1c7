/- Code. -/
import Derived.Test.YthkejedgfhjdiaaPvView
set_option linter.unusedVariables false
set_option linter.all false
namespace Go.PV
open Go

def toExit : Ex → Exit
  | .normal => .normal
  | .exit i => .exit i
  | .ret => .ret

def dstsOf : List Oper → List Nat
  | [] => []
  | o :: r => match dstN o with
    | some d => d :: dstsOf r
    | none => dstsOf r
theorem dstsOf_eq : ∀ l : List Oper, dstsOf l = l.filterMap dstN := by
  intro l
  induction l with
  | nil => rfl
  | cons o l ih =>
    unfold dstsOf
    cases h : dstN o with
    | none => rw [List.filterMap_cons_none h]; exact ih
    | some d => rw [List.filterMap_cons_some h, ← ih]

def lowOps (n : Nat) : List Oper → Bool
  | [] => true
  | o :: r => both (match o.dst with
    | some t => Nat.blt t n
    | none => true) (lowOps n r)
theorem lowOps_ok {n : Nat} : ∀ {l : List Oper}, lowOps n l = true → ∀ o ∈ l, ∀ t, o.dst = some t → t < n := by
  intro l
  induction l with
  | nil => intro _ o h; simp at h
  | cons o l ih =>
    intro h o' ho' t ht
    obtain ⟨h1, h2⟩ := both_true.1 h
    rcases List.mem_cons.1 ho' with rfl | ho'
    · rw [ht] at h1; exact blt_lt h1
    · exact ih h2 o' ho' t ht

/-- Makers' places along a path. -/
def okC : Code → List Nat → Option (List Nat)
  | .region _ ops _, u => cond (both (nodupIds (dstsOf ops.toList)) (noneOf (dstsOf ops.toList) u)) (some (dstsOf ops.toList ++ u)) none
  | .seq a b, u => ob (okC a u) fun u1 => okC b u1
  | .cond _ a b, u => ob (okC a u) fun u1 => ob (okC b u) fun u2 => some (u1 ++ u2)
  | .block _ c, u => okC c u
  | _, u => some u
def lowC (n : Nat) : Code → Bool
  | .region _ ops _ => lowOps n ops.toList
  | .seq a b => both (lowC n a) (lowC n b)
  | .cond _ a b => both (lowC n a) (lowC n b)
  | .block _ c => lowC n c
  | _ => true

/-- The temporaries that a piece of code sets. -/
def asgC : Code → List Nat
  | .region _ ops _ => asgOps ops.toList
  | .seq a b => asgC a ++ asgC b
  | .cond _ a b => asgC a ++ asgC b
  | .block _ c => asgC c
  | .loop c => asgC c
  | _ => []

theorem noneOf_ok : ∀ {l m : List Id}, noneOf l m = true → ∀ i ∈ l, i ∉ m := by
  intro l
  induction l with
  | nil => intro m _ i h; simp at h
  | cons j l ih =>
    intro m h i hi
    obtain ⟨h1, h2⟩ := both_true.1 h
    rcases List.mem_cons.1 hi with rfl | hi
    · exact hasId_not (no_true.1 h1)
    · exact ih h2 i hi

theorem div_at (d j : Nat) (h : j < 32) : (32 * (d + 1) + j) / 32 - 1 = d := by omega
theorem div_mine (d i : Nat) (h : 32 * (d + 1) ≤ i) (h' : i < 32 * (d + 1) + 32) : i / 32 - 1 = d := by omega
theorem ge_at (d j : Nat) : 32 ≤ 32 * (d + 1) + j := by omega

theorem OkOps.of {n : Nat} {u u' : List Nat} {id : Nat} {ops : Array Oper} {dr : Bool} (h : okC (.region id ops dr) u = some u') (hl : lowC n (.region id ops dr) = true) :
    OkOps n (NewU u) ops.toList ∧ ∀ i, NewU u' i → leftL (NewU u) ops.toList i := by
  obtain ⟨hb, h⟩ := cond_some (show cond _ _ none = some u' from h)
  obtain ⟨h1, h2⟩ := both_true.1 hb
  injection h with h
  subst h
  have hmem : ∀ o ∈ ops.toList, ∀ d, dstN o = some d → d ∈ dstsOf ops.toList := fun o ho d hd => by
    rw [dstsOf_eq]
    exact List.mem_filterMap.2 ⟨o, ho, hd⟩
  refine ⟨⟨fun o ho d hd j hj => ⟨ge_at d j, ?_⟩, ?_, lowOps_ok hl⟩, fun i hi => ⟨⟨hi.1, fun hm => hi.2 (List.mem_append_right _ hm)⟩, fun o ho hm => ?_⟩⟩
  · have e := div_at d j hj
    have hn := noneOf_ok h2 d (hmem o ho d hd)
    intro hm
    exact hn (e ▸ hm)
  · rw [← dstsOf_eq]
    exact nodupIds_ok h1
  · obtain ⟨d, hd, h3, h4⟩ := hm
    have e := div_mine d i h3 h4
    exact hi.2 (by rw [e]; exact List.mem_append_left _ (hmem o ho d hd))

theorem okC_sub : ∀ {c : Code} {u u' : List Nat}, okC c u = some u' → ∀ d ∈ u, d ∈ u' := by
  intro c
  induction c with
  | region id ops dr =>
    intro u u' h d hd
    obtain ⟨hb, h⟩ := cond_some (show cond _ _ none = some u' from h)
    injection h with h
    subst h
    exact List.mem_append_right _ hd
  | seq a b iha ihb =>
    intro u u' h d hd
    obtain ⟨u1, h1, h2⟩ := ob_some (show ob _ _ = some u' from h)
    exact ihb h2 d (iha h1 d hd)
  | cond x a b iha ihb =>
    intro u u' h d hd
    obtain ⟨u1, h1, h⟩ := ob_some (show ob _ _ = some u' from h)
    obtain ⟨u2, h2, h⟩ := ob_some h
    injection h with h
    subst h
    exact List.mem_append_left _ (iha h1 d hd)
  | block i c ih => intro u u' h d hd; exact ih h d hd
  | _ => intro u u' h d hd; injection h with h; subst h; exact hd

section
variable {P : Program} {Γ : Tab} {G : GTab}

/-- What must hold behind a piece of code. -/
def Post (P : Program) (B : Nat → Prop) (s : St) (a : Act) (w : World) (β : Bl) (u l : List Nat) {R : Type} (K : Ex → St → Option R) (r : R) (Q : Exit → Act → World → Prop) : Prop :=
  ∀ e s' a' w' B' φ' β', K e s' = some r → Rel P B' (NewU u) s' a'.tmps w' φ' β' → Gr s.sto w B β s'.sto w' B' β' → a'.tmps.size = a.tmps.size → a'.defers = a.defers → Same l a a' → Q (toExit e) a' w'

/-- A loop does what its summary says. -/
def LoopOk (P : Program) (n : Nat) (l : LSum) (c : Code) : Prop :=
  ∀ (R : Type) (ks : (j : Nat) → ((l.exs.getD j (.ret, Sh.none)).2).T → Option R) (x : l.sh.T) (r : R), l.f x ks = some r →
    ∀ {B : Nat → Prop} {a : Act} {w : World} {φ : Hd} {β : Bl} {Q : Exit → Act → World → Prop}, Rel P B (NewU []) (fill l.sh x) a.tmps w φ β → a.tmps.size = n →
      (∀ j y a' w' B' φ' β', ks j y = some r → Rel P B' (NewU []) (fill (l.exs.getD j (.ret, Sh.none)).2 y) a'.tmps w' φ' β' → Gr (fill l.sh x).sto w B β (fill (l.exs.getD j (.ret, Sh.none)).2 y).sto w' B' β' →
        a'.tmps.size = a.tmps.size → a'.defers = a.defers → Same (asgC c) a a' → Q (toExit (l.exs.getD j (.ret, Sh.none)).1) a' w') → (Code.loop c).wp P Q a w

/-- A region whose order is drawn does what the evaluator says. -/
def DrawOk (P : Program) (Γ : Tab) (G : GTab) (ops : Array Oper) : Prop :=
  ∀ {R : Type} {r : R} {K : St → Option R} {new : Id → Prop} {B : Nat → Prop} {s : St} {a : Act} {w : World} {φ : Hd} {β : Bl} {Q : Exit → Act → World → Prop} (id : Nat),
    Rel P B new s a.tmps w φ β → OkOps a.tmps.size new ops.toList → regF G Γ ops true s K = some r →
    (∀ s' a' w', K s' = some r → After P B s a w β (leftL new ops.toList) (asgOps ops.toList) s' a' w' → Q .normal a' w') → (Code.region id ops true).wp P Q a w

theorem NewU.sub {u u' : List Nat} (h : ∀ d ∈ u, d ∈ u') : ∀ i, NewU u' i → NewU u i := fun i hi => ⟨hi.1, fun hm => hi.2 (h _ hm)⟩

theorem blt_add (a i : Nat) : Nat.blt (a + i) a = false := by
  cases hq : Nat.blt (a + i) a with
  | false => rfl
  | true => have := blt_lt hq; omega
theorem loopAt_cond1 (c : Operand) (x y : Code) {i : Nat} (h : i < nloops x) : loopAt (.cond c x y) i = loopAt x i := by
  show cond (Nat.blt i (nloops x)) (loopAt x i) (loopAt y (i - nloops x)) = _
  rw [show Nat.blt i (nloops x) = true from Nat.ble_eq_true_of_le h]
  rfl
theorem loopAt_cond2 (c : Operand) (x y : Code) (i : Nat) : loopAt (.cond c x y) (nloops x + i) = loopAt y i := by
  show cond (Nat.blt (nloops x + i) (nloops x)) (loopAt x (nloops x + i)) (loopAt y (nloops x + i - nloops x)) = _
  rw [blt_add, Nat.add_sub_cancel_left]
  rfl

theorem code_sound (hP : ProgOk P Γ) (hG : GOk P G) (hD : ∀ ops, DrawOk P Γ G ops) {n : Nat} {L : List LSum} : ∀ (c : Code) (base : Nat), (∀ i, i < nloops c → ∀ l, L[base + i]? = some l → LoopOk P n l (loopAt c i)) →
    ∀ {R : Type} {r : R} {K : Ex → St → Option R} {B : Nat → Prop} {u u' : List Nat} {s : St} {a : Act} {w : World} {φ : Hd} {β : Bl} {Q : Exit → Act → World → Prop}, okC c u = some u' → lowC n c = true → a.tmps.size = n →
      Rel P B (NewU u) s a.tmps w φ β → codeF G Γ L c base s K = some r → Post P B s a w β u' (asgC c) K r Q → c.wp P Q a w := by
  intro c
  induction c with
  | skip =>
    intro base hL R r K B u u' s a w φ β Q ho hl hn Rl h hQ
    injection ho with ho
    subst ho
    exact wp_skip (hQ .normal s a w B φ β h Rl (Gr.refl _ _ _ _) rfl rfl (Same.refl _ _))
  | exit i =>
    intro base hL R r K B u u' s a w φ β Q ho hl hn Rl h hQ
    injection ho with ho
    subst ho
    exact wp_exit (hQ (.exit i) s a w B φ β h Rl (Gr.refl _ _ _ _) rfl rfl (Same.refl _ _))
  | ret =>
    intro base hL R r K B u u' s a w φ β Q ho hl hn Rl h hQ
    injection ho with ho
    subst ho
    exact wp_ret (hQ .ret s a w B φ β h Rl (Gr.refl _ _ _ _) rfl rfl (Same.refl _ _))
  | region id ops dr =>
    intro base hL R r K B u u' s a w φ β Q ho hl hn Rl h hQ
    obtain ⟨h1, h2⟩ := OkOps.of ho hl
    have hq : ∀ s' a' w', K .normal s' = some r → After P B s a w β (leftL (NewU u) ops.toList) (asgOps ops.toList) s' a' w' → Q .normal a' w' := fun s' a' w' hk ⟨B', φ', β', q1, q2, q3, q4, q5⟩ =>
      hQ .normal s' a' w' B' φ' β' hk (q1.less h2) q2 q3 q4 q5
    cases dr with
    | true => exact hD ops id Rl (hn ▸ h1) h hq
    | false =>
      refine wp_region ?_
      have := ops_sound (Q := Q) (R := R) (r := r) hP hG (ops := ops) ops.toList 0 (K := K .normal) (by simp) Rl (hn ▸ h1) h hq
      rw [List.range_eq_range']
      simpa using this
  | seq x y ihx ihy =>
    intro base hL R r K B u u' s a w φ β Q ho hl hn Rl h hQ
    obtain ⟨u1, ho1, ho2⟩ := ob_some (show ob _ _ = some u' from ho)
    obtain ⟨hl1, hl2⟩ := both_true.1 hl
    have hLx : ∀ i, i < nloops x → ∀ l, L[base + i]? = some l → LoopOk P n l (loopAt x i) := by
      intro i hi l hli
      have h5 : LoopOk P n l (loopAt (.seq x y) i) := hL i (show i < nloops x + nloops y by omega) l hli
      rw [show loopAt (.seq x y) i = loopAt x i from loopAt_cond1 (.tmp 0) x y hi] at h5
      exact h5
    have hLy : ∀ i, i < nloops y → ∀ l, L[base + nloops x + i]? = some l → LoopOk P n l (loopAt y i) := by
      intro i hi l hli
      have h5 : LoopOk P n l (loopAt (.seq x y) (nloops x + i)) := hL (nloops x + i) (show nloops x + i < nloops x + nloops y by omega) l (by rw [← Nat.add_assoc]; exact hli)
      rw [show loopAt (.seq x y) (nloops x + i) = loopAt y i from loopAt_cond2 (.tmp 0) x y i] at h5
      exact h5
    refine wp_seq (ihx base hLx ho1 hl1 hn Rl h fun e s' a' w' B' φ' β' hk q1 q2 q3 q4 q5 => ?_)
    have q5 : Same (asgC (.seq x y)) a a' := q5.mono fun t ht => List.mem_append_left _ ht
    · cases e with
      | normal =>
        exact ihy (base + nloops x) hLy ho2 hl2 (by rw [q3, hn]) q1 hk fun e' s'' a'' w'' B'' φ'' β'' hk' p1 p2 p3 p4 p5 => hQ e' s'' a'' w'' B'' φ'' β'' hk' p1 (q2.trans p2) (by rw [p3, q3]) (by rw [p4, q4]) (q5.trans (p5.mono fun t ht => List.mem_append_right _ ht))
      | exit i => exact hQ (.exit i) s' a' w' B' φ' β' hk (q1.less (NewU.sub (okC_sub ho2))) q2 q3 q4 q5
      | ret => exact hQ .ret s' a' w' B' φ' β' hk (q1.less (NewU.sub (okC_sub ho2))) q2 q3 q4 q5
  | cond c x y ihx ihy =>
    intro base hL R r K B u u' s a w φ β Q ho hl hn Rl h hQ
    obtain ⟨u1, ho1, ho⟩ := ob_some (show ob _ _ = some u' from ho)
    obtain ⟨u2, ho2, ho⟩ := ob_some ho
    injection ho with ho
    subst ho
    obtain ⟨hl1, hl2⟩ := both_true.1 hl
    have hLx : ∀ i, i < nloops x → ∀ l, L[base + i]? = some l → LoopOk P n l (loopAt x i) := by
      intro i hi l hli
      have h5 : LoopOk P n l (loopAt (.cond c x y) i) := hL i (show i < nloops x + nloops y by omega) l hli
      rw [loopAt_cond1 c x y hi] at h5
      exact h5
    have hLy : ∀ i, i < nloops y → ∀ l, L[base + nloops x + i]? = some l → LoopOk P n l (loopAt y i) := by
      intro i hi l hli
      have h5 : LoopOk P n l (loopAt (.cond c x y) (nloops x + i)) := hL (nloops x + i) (show nloops x + i < nloops x + nloops y by omega) l (by rw [← Nat.add_assoc]; exact hli)
      rw [loopAt_cond2 c x y i] at h5
      exact h5
    have hQ1 : Post P B s a w β u1 (asgC x) K r Q := fun e s' a' w' B' φ' β' hk q1 q2 q3 q4 q5 => hQ e s' a' w' B' φ' β' hk (q1.less (NewU.sub fun d hd => List.mem_append_left _ hd)) q2 q3 q4 (q5.mono fun t ht => List.mem_append_left _ ht)
    have hQ2 : Post P B s a w β u2 (asgC y) K r Q := fun e s' a' w' B' φ' β' hk q1 q2 q3 q4 q5 => hQ e s' a' w' B' φ' β' hk (q1.less (NewU.sub fun d hd => List.mem_append_right _ hd)) q2 q3 q4 (q5.mono fun t ht => List.mem_append_right _ ht)
    simp only [codeF] at h
    split at h
    · rename_i b hb
      have hev : a.eval c = .bool b := by
        have := opd_rel Rl c
        rw [hb] at this
        exact vr_bool this
      have fin : br b (codeF G Γ L x base s K) (codeF G Γ L y (base + nloops x) s K) = some r → (Code.cond c x y).wp P Q a w := fun h => by
        cases b with
        | true => exact wp_cond_true hev (ihx base hLx ho1 hl1 hn Rl h hQ1)
        | false => exact wp_cond_false hev (ihy _ hLy ho2 hl2 hn Rl h hQ2)
      split at h
      · rename_i t
        have h1 : s.env t = .one (.ro .bool b) := hb
        cases b with
        | true =>
          rw [show ({ s with env := s.env.put (some t) (roV .bool true) } : St) = s from St.same h1] at h
          exact fin h
        | false =>
          rw [show ({ s with env := s.env.put (some t) (roV .bool false) } : St) = s from St.same h1] at h
          exact fin h
      · exact fin h
    · cases h
  | block i c ih =>
    intro base hL R r K B u u' s a w φ β Q ho hl hn Rl h hQ
    refine wp_block (ih base hL ho hl hn Rl h fun e s' a' w' B' φ' β' hk q1 q2 q3 q4 q5 => ?_)
    cases e with
    | normal => exact hQ .normal s' a' w' B' φ' β' hk q1 q2 q3 q4 q5
    | ret => exact hQ .ret s' a' w' B' φ' β' hk q1 q2 q3 q4 q5
    | exit j =>
      simp only at hk
      show if j = i then Q .normal a' w' else Q (.exit j) a' w'
      cases hb : Nat.beq j i with
      | true =>
        rw [hb] at hk
        rw [if_pos (beq_eq hb)]
        exact hQ .normal s' a' w' B' φ' β' hk q1 q2 q3 q4 q5
      | false =>
        rw [hb] at hk
        rw [if_neg (fun e => by subst e; rw [beq_self] at hb; cases hb)]
        exact hQ (.exit j) s' a' w' B' φ' β' hk q1 q2 q3 q4 q5
  | loop c ih =>
    intro base hL R r K B u u' s a w φ β Q ho hl hn Rl h hQ
    injection ho with ho
    subst ho
    simp only [codeF] at h
    split at h
    · rename_i l hl0
      obtain ⟨x, h1, h⟩ := ob_some h
      obtain ⟨φ1, β1, R1, g1⟩ := view_sound Rl h1 []
      refine hL 0 (by simp [nloops]) l (by simpa using hl0) _ _ x r h R1 hn fun j y a' w' B' φ' β' hk q1 q2 q3 q4 q5 => ?_
      exact hQ _ _ a' w' B' φ' β' hk (q1.less (NewU.sub (by simp))) (g1.trans q2) q3 q4 q5
    · cases h
  | _ => intro base hL R r K B u u' s a w φ β Q ho hl hn Rl h hQ; cases h
end
end Go.PV
