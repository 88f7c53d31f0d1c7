/- Code. -/
import Derived.Test.YtahehkidnfmfnaaGreatPvView
set_option linter.all false
namespace Go.PV
open Go

def toExit : Ex → Exit
  | .normal => .normal
  | .exit i => .exit i
  | .ret => .ret

def dstsOf (Γ : Tab) : List Oper → List Nat
  | [] => []
  | o :: r => match dstN Γ o with
    | some d => d :: dstsOf Γ r
    | none => dstsOf Γ r
theorem dstsOf_eq {Γ : Tab} : ∀ l : List Oper, dstsOf Γ l = l.filterMap (dstN Γ) := by
  intro l
  induction l with
  | nil => rfl
  | cons o l ih =>
    unfold dstsOf
    cases h : dstN Γ o with
    | none => rw [List.filterMap_cons_none h]; exact ih
    | some d => rw [List.filterMap_cons_some h, ← ih]

def lowOps (n : Nat) : List Oper → Bool
  | [] => true
  | o :: r => both (match o.dst with
    | some t => Nat.blt t n
    | none => true) (lowOps n r)
theorem lowOps_ok {n : Nat} : ∀ {l : List Oper}, lowOps n l = true → ∀ o ∈ l, ∀ t, o.dst = some t → t < n := by
  intro l
  induction l with
  | nil => intro _ o h; simp at h
  | cons o l ih =>
    intro h o' ho' t ht
    obtain ⟨h1, h2⟩ := both_true.1 h
    rcases List.mem_cons.1 ho' with rfl | ho'
    · rw [ht] at h1; exact blt_lt h1
    · exact ih h2 o' ho' t ht

def loadsOf (Γ : Tab) : List Oper → List Nat
  | [] => []
  | o :: r => match o.op, dstN Γ o with
    | .load _ _, some d => (100000 + d) :: loadsOf Γ r
    | _, _ => loadsOf Γ r
def ghosts (Γ : Tab) (dr : Bool) (ops : List Oper) : List Nat := cond dr (loadsOf Γ ops) []
def okC (Γ : Tab) : Code → List Nat → Option (List Nat)
  | .region _ ops dr, u => cond (both (nodupIds (ghosts Γ dr ops.toList ++ dstsOf Γ ops.toList)) (noneOf (ghosts Γ dr ops.toList ++ dstsOf Γ ops.toList) u)) (some (dstsOf Γ ops.toList ++ (ghosts Γ dr ops.toList ++ u))) none
  | .seq a b, u => ob (okC Γ a u) fun u1 => okC Γ b u1
  | .cond _ a b, u => ob (okC Γ a u) fun u1 => ob (okC Γ b u) fun u2 => some (u1 ++ u2)
  | .block _ c, u => okC Γ c u
  | _, u => some u
def lowC (n : Nat) : Code → Bool
  | .region _ ops _ => lowOps n ops.toList
  | .seq a b => both (lowC n a) (lowC n b)
  | .cond _ a b => both (lowC n a) (lowC n b)
  | .block _ c => lowC n c
  | _ => true

def asgC : Code → List Nat
  | .region _ ops _ => asgOps ops.toList
  | .seq a b => asgC a ++ asgC b
  | .cond _ a b => asgC a ++ asgC b
  | .block _ c => asgC c
  | .loop c => asgC c
  | _ => []

theorem noneOf_ok : ∀ {l m : List Id}, noneOf l m = true → ∀ i ∈ l, i ∉ m := by
  intro l
  induction l with
  | nil => intro m _ i h; simp at h
  | cons j l ih =>
    intro m h i hi
    obtain ⟨h1, h2⟩ := both_true.1 h
    rcases List.mem_cons.1 hi with rfl | hi
    · exact hasId_not (no_true.1 h1)
    · exact ih h2 i hi

theorem div_at (d j : Nat) (h : j < 32) : (32 * (d + 1) + j) / 32 - 1 = d := by omega
theorem div_mine (d i : Nat) (h : 32 * (d + 1) ≤ i) (h' : i < 32 * (d + 1) + 32) : i / 32 - 1 = d := by omega
theorem ge_at (d j : Nat) : 32 ≤ 32 * (d + 1) + j := by omega

theorem OkOps.of {Γ : Tab} {n : Nat} {u u' : List Nat} {id : Nat} {ops : Array Oper} {dr : Bool} (h : okC Γ (.region id ops dr) u = some u') (hl : lowC n (.region id ops dr) = true) :
    OkOps Γ n (NewU (ghosts Γ dr ops.toList ++ u)) ops.toList ∧ (∀ i, NewU u' i → leftL Γ (NewU (ghosts Γ dr ops.toList ++ u)) ops.toList i) ∧ (ghosts Γ dr ops.toList).Nodup ∧ ∀ d ∈ ghosts Γ dr ops.toList, d ∉ u := by
  obtain ⟨hb, h⟩ := cond_some (show cond _ _ none = some u' from h)
  obtain ⟨h1, h2⟩ := both_true.1 hb
  injection h with h
  subst h
  have hmem : ∀ o ∈ ops.toList, ∀ d, dstN Γ o = some d → d ∈ dstsOf Γ ops.toList := fun o ho d hd => by
    rw [dstsOf_eq]
    exact List.mem_filterMap.2 ⟨o, ho, hd⟩
  have hnd := nodupIds_ok h1
  rw [List.nodup_append] at hnd
  refine ⟨⟨fun o ho d hd j hj => ⟨ge_at d j, ?_⟩, ?_, lowOps_ok hl⟩, fun i hi => ⟨⟨hi.1, fun hm => hi.2 (List.mem_append_right _ hm)⟩, fun o ho hm => ?_⟩, hnd.1, fun d hd => noneOf_ok h2 d (List.mem_append_left _ hd)⟩
  · have e := div_at d j hj
    have hn := noneOf_ok h2 d (List.mem_append_right _ (hmem o ho d hd))
    intro hm
    rw [e] at hm
    rcases List.mem_append.1 hm with hm | hm
    · exact hnd.2.2 d hm d (hmem o ho d hd) rfl
    · exact hn hm
  · rw [← dstsOf_eq]
    exact hnd.2.1
  · obtain ⟨d, hd, h3, h4⟩ := hm
    have e := div_mine d i h3 h4
    exact hi.2 (by rw [e]; exact List.mem_append_left _ (hmem o ho d hd))

theorem okC_sub {Γ : Tab} : ∀ {c : Code} {u u' : List Nat}, okC Γ c u = some u' → ∀ d ∈ u, d ∈ u' := by
  intro c
  induction c with
  | region id ops dr =>
    intro u u' h d hd
    obtain ⟨hb, h⟩ := cond_some (show cond _ _ none = some u' from h)
    injection h with h
    subst h
    exact List.mem_append_right _ (List.mem_append_right _ hd)
  | seq a b iha ihb =>
    intro u u' h d hd
    obtain ⟨u1, h1, h2⟩ := ob_some (show ob _ _ = some u' from h)
    exact ihb h2 d (iha h1 d hd)
  | cond x a b iha ihb =>
    intro u u' h d hd
    obtain ⟨u1, h1, h⟩ := ob_some (show ob _ _ = some u' from h)
    obtain ⟨u2, h2, h⟩ := ob_some h
    injection h with h
    subst h
    exact List.mem_append_left _ (iha h1 d hd)
  | block i c ih => intro u u' h d hd; exact ih h d hd
  | _ => intro u u' h d hd; injection h with h; subst h; exact hd

section
variable {P : Program} {Γ : Tab} {G : GTab}

def Post (P : Program) (B : Nat → Prop) (s : St) (a : Act) (w : World) (β : Bl) (u l : List Nat) {R : Type} (K : Ex → St → Option R) (r : R) (Q : Exit → Act → World → Prop) : Prop :=
  ∀ e s' a' w' B' φ' β', K e s' = some r → Rel P B' (NewU u) s' a'.tmps w' φ' β' → Gr s.sto w B β s'.sto w' B' β' → a'.tmps.size = a.tmps.size → a'.defers = a.defers → Same l a a' → Q (toExit e) a' w'

def LoopOk (P : Program) (n : Nat) (l : LSum) (c : Code) : Prop :=
  ∀ (R : Type) (ks : (j : Nat) → ((l.exs.getD j (.ret, Sh.none)).2).T → Option R) (x : l.sh.T) (r : R), l.f x ks = some r →
    ∀ {B : Nat → Prop} {a : Act} {w : World} {φ : Hd} {β : Bl} {Q : Exit → Act → World → Prop}, Rel P B (NewU []) (fill l.sh x) a.tmps w φ β → a.tmps.size = n →
      (∀ j y a' w' B' φ' β', ks j y = some r → Rel P B' (NewU []) (fill (l.exs.getD j (.ret, Sh.none)).2 y) a'.tmps w' φ' β' → Gr (fill l.sh x).sto w B β (fill (l.exs.getD j (.ret, Sh.none)).2 y).sto w' B' β' →
        a'.tmps.size = a.tmps.size → a'.defers = a.defers → Same (asgC c) a a' → Q (toExit (l.exs.getD j (.ret, Sh.none)).1) a' w') → (Code.loop c).wp P Q a w

def DrawOk (P : Program) (Γ : Tab) (G : GTab) (ops : Array Oper) : Prop :=
  ∀ {R : Type} {r : R} {K : St → Option R} {new : Id → Prop} {B : Nat → Prop} {s : St} {a : Act} {w : World} {φ : Hd} {β : Bl} {Q : Exit → Act → World → Prop} (id : Nat),
    Rel P B new s a.tmps w φ β → OkOps Γ a.tmps.size new ops.toList → regF G Γ ops true s K = some r →
    (∀ s' a' w', K s' = some r → After P B s a w β (leftL Γ new ops.toList) (asgOps ops.toList) s' a' w' → Q .normal a' w') → (Code.region id ops true).wp P Q a w

theorem NewU.sub {u u' : List Nat} (h : ∀ d ∈ u, d ∈ u') : ∀ i, NewU u' i → NewU u i := fun i hi => ⟨hi.1, fun hm => hi.2 (h _ hm)⟩

theorem openAll_sound {B : Nat → Prop} {tmps : Array Value} {w : World} : ∀ {ops : List Oper} {s : St} {φ : Hd} {β : Bl} {u : List Nat}, Rel P B (NewU u) s tmps w φ β → (loadsOf Γ ops).Nodup → (∀ d ∈ loadsOf Γ ops, d ∉ u) →
    ∃ φ' β', Gr s.sto w B β (openAll Γ ops s).sto w B β' ∧ Rel P B (NewU (loadsOf Γ ops ++ u)) (openAll Γ ops s) tmps w φ' β' := by
  intro ops
  induction ops with
  | nil => intro s φ β u Rl _ _; exact ⟨φ, β, Gr.refl _ _ _ _, Rl⟩
  | cons o r ih =>
    intro s φ β u Rl hn hu
    -- one operation
    have key : ∃ φ1 β1 u1, Gr s.sto w B β (openOp Γ s o).sto w B β1 ∧ Rel P B (NewU u1) (openOp Γ s o) tmps w φ1 β1 ∧ loadsOf Γ (o :: r) ++ u = loadsOf Γ (o :: r) ++ u ∧ (u1 = u ∨ ∃ d, loadsOf Γ (o :: r) = (100000 + d) :: loadsOf Γ r ∧ u1 = (100000 + d) :: u) := by
      unfold openOp
      split
      · rename_i τ t d hop hd
        split
        · rename_i id he
          split
          · rename_i a y td ho hτ
            cases hb : both (tyb a td.ty) (Nat.ble (lists a) 32) with
            | false => exact ⟨φ, β, u, Gr.refl _ _ _ _, Rl, rfl, .inl rfl⟩
            | true =>
              obtain ⟨h1, h2⟩ := both_true.1 hb
              have h1 := tyb_eq h1
              have h2 := ble_le h2
              rcases Nat.eq_zero_or_pos (lists a) with h0 | h0
              · obtain ⟨φ', β', cur, e, g, _, _, _, _, n2, R2⟩ := Rl.opened (d0 := 32 * (100000 + d + 1)) (fun j hj => by omega) ho
                exact ⟨φ', β', u, n2.2, R2.less fun i hi => ⟨hi, fun hm => by rw [h0] at hm; exact absurd hm.2 (Nat.not_lt_of_le hm.1)⟩, rfl, .inl rfl⟩
              · have hl : loadsOf Γ (o :: r) = (100000 + d) :: loadsOf Γ r := by
                  have hc : dstN Γ o = some d := by
                    have : creates Γ o = true := by
                      simp only [creates, hop, hτ]
                      rw [← h1]
                      exact Nat.ble_eq_true_of_le h0
                    simp [dstN, this, hd]
                  simp only [loadsOf, hop, hc]
                obtain ⟨φ', β', cur, e, g, _, _, _, _, n2, R2⟩ := Rl.opened (d0 := 32 * (100000 + d + 1)) (fun j hj => ⟨ge_at _ _, by rw [div_at (100000 + d) j (by omega)]; exact hu _ (by rw [hl]; simp)⟩) ho
                refine ⟨φ', β', (100000 + d) :: u, n2.2, R2.less fun i hi => ⟨⟨hi.1, fun hm => hi.2 (List.mem_cons_of_mem _ hm)⟩, fun hm => hi.2 ?_⟩, rfl, .inr ⟨d, hl, rfl⟩⟩
                rw [div_mine (100000 + d) i hm.1 (Nat.lt_of_lt_of_le hm.2 (Nat.add_le_add_left h2 _))]
                simp
          · exact ⟨φ, β, u, Gr.refl _ _ _ _, Rl, rfl, .inl rfl⟩
        · exact ⟨φ, β, u, Gr.refl _ _ _ _, Rl, rfl, .inl rfl⟩
      · split
        · split
          · rename_i a y ho
            cases hb : Nat.beq (lists a) 0 with
            | false => exact ⟨φ, β, u, Gr.refl _ _ _ _, Rl, rfl, .inl rfl⟩
            | true =>
              have h0 := beq_eq hb
              obtain ⟨φ', β', cur, e, g, _, _, _, _, n2, R2⟩ := Rl.opened (d0 := 0) (fun j hj => by omega) ho
              exact ⟨φ', β', u, n2.2, R2.less fun i hi => ⟨hi, fun hm => by rw [h0] at hm; exact absurd hm.2 (Nat.not_lt_of_le hm.1)⟩, rfl, .inl rfl⟩
          · exact ⟨φ, β, u, Gr.refl _ _ _ _, Rl, rfl, .inl rfl⟩
        · exact ⟨φ, β, u, Gr.refl _ _ _ _, Rl, rfl, .inl rfl⟩
      · exact ⟨φ, β, u, Gr.refl _ _ _ _, Rl, rfl, .inl rfl⟩
    have hsub : ∀ d ∈ loadsOf Γ r, d ∈ loadsOf Γ (o :: r) := fun d hd => by
      simp only [loadsOf]
      split
      · exact List.mem_cons_of_mem _ hd
      · exact hd
    have hnr : (loadsOf Γ r).Nodup := by
      simp only [loadsOf] at hn
      split at hn
      · exact (List.nodup_cons.1 hn).2
      · exact hn
    obtain ⟨φ1, β1, u1, g1, R1, _, hu1⟩ := key
    rcases hu1 with rfl | ⟨d, hl, rfl⟩
    · obtain ⟨φ2, β2, g2, R2⟩ := ih R1 hnr fun d hd => hu d (hsub d hd)
      exact ⟨φ2, β2, g1.trans g2, R2.less (NewU.sub fun d hd => by
        rcases List.mem_append.1 hd with h | h
        · exact List.mem_append_left _ (hsub d h)
        · exact List.mem_append_right _ h)⟩
    · rw [hl] at hn
      obtain ⟨φ2, β2, g2, R2⟩ := ih R1 hnr fun d' hd hm => by
        rcases List.mem_cons.1 hm with rfl | hm
        · exact (List.nodup_cons.1 hn).1 hd
        · exact hu d' (hsub d' hd) hm
      exact ⟨φ2, β2, g1.trans g2, R2.less (NewU.sub fun d' hd => by
        rw [hl]
        rcases List.mem_append.1 hd with h | h
        · exact List.mem_append_left _ (List.mem_cons_of_mem _ h)
        · rcases List.mem_cons.1 h with rfl | h
          · simp
          · exact List.mem_append_right _ h)⟩

theorem blt_add (a i : Nat) : Nat.blt (a + i) a = false := by
  cases hq : Nat.blt (a + i) a with
  | false => rfl
  | true => have := blt_lt hq; omega
theorem loopAt_cond1 (c : Operand) (x y : Code) {i : Nat} (h : i < nloops x) : loopAt (.cond c x y) i = loopAt x i := by
  show cond (Nat.blt i (nloops x)) (loopAt x i) (loopAt y (i - nloops x)) = _
  rw [show Nat.blt i (nloops x) = true from Nat.ble_eq_true_of_le h]
  rfl
theorem loopAt_cond2 (c : Operand) (x y : Code) (i : Nat) : loopAt (.cond c x y) (nloops x + i) = loopAt y i := by
  show cond (Nat.blt (nloops x + i) (nloops x)) (loopAt x (nloops x + i)) (loopAt y (nloops x + i - nloops x)) = _
  rw [blt_add, Nat.add_sub_cancel_left]
  rfl

theorem code_sound (hP : ProgOk P Γ) (hG : GOk P G) (hD : ∀ ops, DrawOk P Γ G ops) {n : Nat} {L : List LSum} : ∀ (c : Code) (base : Nat), (∀ i, i < nloops c → ∀ l, L[base + i]? = some l → LoopOk P n l (loopAt c i)) →
    ∀ {R : Type} {r : R} {K : Ex → St → Option R} {B : Nat → Prop} {u u' : List Nat} {s : St} {a : Act} {w : World} {φ : Hd} {β : Bl} {Q : Exit → Act → World → Prop}, okC Γ c u = some u' → lowC n c = true → a.tmps.size = n →
      Rel P B (NewU u) s a.tmps w φ β → codeF G Γ L c base s K = some r → Post P B s a w β u' (asgC c) K r Q → c.wp P Q a w := by
  intro c
  induction c with
  | skip =>
    intro base hL R r K B u u' s a w φ β Q ho hl hn Rl h hQ
    injection ho with ho
    subst ho
    exact wp_skip (hQ .normal s a w B φ β h Rl (Gr.refl _ _ _ _) rfl rfl (Same.refl _ _))
  | exit i =>
    intro base hL R r K B u u' s a w φ β Q ho hl hn Rl h hQ
    injection ho with ho
    subst ho
    exact wp_exit (hQ (.exit i) s a w B φ β h Rl (Gr.refl _ _ _ _) rfl rfl (Same.refl _ _))
  | ret =>
    intro base hL R r K B u u' s a w φ β Q ho hl hn Rl h hQ
    injection ho with ho
    subst ho
    exact wp_ret (hQ .ret s a w B φ β h Rl (Gr.refl _ _ _ _) rfl rfl (Same.refl _ _))
  | region id ops dr =>
    intro base hL R r K B u u' s a w φ β Q ho hl hn Rl h hQ
    obtain ⟨h1, h2, h3, h4⟩ := OkOps.of ho hl
    cases dr with
    | true =>
      obtain ⟨φ1, β1, g1, R1⟩ := openAll_sound Rl (show (loadsOf Γ ops.toList).Nodup from h3) h4
      exact hD ops id R1 (hn ▸ h1) h fun s' a' w' hk ⟨B', φ', β', q1, q2, q3, q4, q5⟩ => hQ .normal s' a' w' B' φ' β' hk (q1.less h2) (g1.trans q2) q3 q4 q5
    | false =>
      have hq : ∀ s' a' w', K .normal s' = some r → After P B s a w β (leftL Γ (NewU u) ops.toList) (asgOps ops.toList) s' a' w' → Q .normal a' w' := fun s' a' w' hk ⟨B', φ', β', q1, q2, q3, q4, q5⟩ =>
        hQ .normal s' a' w' B' φ' β' hk (q1.less h2) q2 q3 q4 q5
      refine wp_region ?_
      have := ops_sound (Q := Q) (R := R) (r := r) hP hG (ops := ops) ops.toList 0 (K := K .normal) (by simp) Rl (hn ▸ h1) h hq
      rw [List.range_eq_range']
      simpa using this
  | seq x y ihx ihy =>
    intro base hL R r K B u u' s a w φ β Q ho hl hn Rl h hQ
    obtain ⟨u1, ho1, ho2⟩ := ob_some (show ob _ _ = some u' from ho)
    obtain ⟨hl1, hl2⟩ := both_true.1 hl
    have hLx : ∀ i, i < nloops x → ∀ l, L[base + i]? = some l → LoopOk P n l (loopAt x i) := by
      intro i hi l hli
      have h5 : LoopOk P n l (loopAt (.seq x y) i) := hL i (show i < nloops x + nloops y by omega) l hli
      rw [show loopAt (.seq x y) i = loopAt x i from loopAt_cond1 (.tmp 0) x y hi] at h5
      exact h5
    have hLy : ∀ i, i < nloops y → ∀ l, L[base + nloops x + i]? = some l → LoopOk P n l (loopAt y i) := by
      intro i hi l hli
      have h5 : LoopOk P n l (loopAt (.seq x y) (nloops x + i)) := hL (nloops x + i) (show nloops x + i < nloops x + nloops y by omega) l (by rw [← Nat.add_assoc]; exact hli)
      rw [show loopAt (.seq x y) (nloops x + i) = loopAt y i from loopAt_cond2 (.tmp 0) x y i] at h5
      exact h5
    refine wp_seq (ihx base hLx ho1 hl1 hn Rl h fun e s' a' w' B' φ' β' hk q1 q2 q3 q4 q5 => ?_)
    have q5 : Same (asgC (.seq x y)) a a' := q5.mono fun t ht => List.mem_append_left _ ht
    · cases e with
      | normal =>
        exact ihy (base + nloops x) hLy ho2 hl2 (by rw [q3, hn]) q1 hk fun e' s'' a'' w'' B'' φ'' β'' hk' p1 p2 p3 p4 p5 => hQ e' s'' a'' w'' B'' φ'' β'' hk' p1 (q2.trans p2) (by rw [p3, q3]) (by rw [p4, q4]) (q5.trans (p5.mono fun t ht => List.mem_append_right _ ht))
      | exit i => exact hQ (.exit i) s' a' w' B' φ' β' hk (q1.less (NewU.sub (okC_sub ho2))) q2 q3 q4 q5
      | ret => exact hQ .ret s' a' w' B' φ' β' hk (q1.less (NewU.sub (okC_sub ho2))) q2 q3 q4 q5
  | cond c x y ihx ihy =>
    intro base hL R r K B u u' s a w φ β Q ho hl hn Rl h hQ
    obtain ⟨u1, ho1, ho⟩ := ob_some (show ob _ _ = some u' from ho)
    obtain ⟨u2, ho2, ho⟩ := ob_some ho
    injection ho with ho
    subst ho
    obtain ⟨hl1, hl2⟩ := both_true.1 hl
    have hLx : ∀ i, i < nloops x → ∀ l, L[base + i]? = some l → LoopOk P n l (loopAt x i) := by
      intro i hi l hli
      have h5 : LoopOk P n l (loopAt (.cond c x y) i) := hL i (show i < nloops x + nloops y by omega) l hli
      rw [loopAt_cond1 c x y hi] at h5
      exact h5
    have hLy : ∀ i, i < nloops y → ∀ l, L[base + nloops x + i]? = some l → LoopOk P n l (loopAt y i) := by
      intro i hi l hli
      have h5 : LoopOk P n l (loopAt (.cond c x y) (nloops x + i)) := hL (nloops x + i) (show nloops x + i < nloops x + nloops y by omega) l (by rw [← Nat.add_assoc]; exact hli)
      rw [loopAt_cond2 c x y i] at h5
      exact h5
    have hQ1 : Post P B s a w β u1 (asgC x) K r Q := fun e s' a' w' B' φ' β' hk q1 q2 q3 q4 q5 => hQ e s' a' w' B' φ' β' hk (q1.less (NewU.sub fun d hd => List.mem_append_left _ hd)) q2 q3 q4 (q5.mono fun t ht => List.mem_append_left _ ht)
    have hQ2 : Post P B s a w β u2 (asgC y) K r Q := fun e s' a' w' B' φ' β' hk q1 q2 q3 q4 q5 => hQ e s' a' w' B' φ' β' hk (q1.less (NewU.sub fun d hd => List.mem_append_right _ hd)) q2 q3 q4 (q5.mono fun t ht => List.mem_append_right _ ht)
    simp only [codeF] at h
    split at h
    · rename_i b hb
      have hev : a.eval c = .bool b := by
        have := opd_rel Rl c
        rw [hb] at this
        exact vr_bool this
      have fin : br b (codeF G Γ L x base s K) (codeF G Γ L y (base + nloops x) s K) = some r → (Code.cond c x y).wp P Q a w := fun h => by
        cases b with
        | true => exact wp_cond_true hev (ihx base hLx ho1 hl1 hn Rl h hQ1)
        | false => exact wp_cond_false hev (ihy _ hLy ho2 hl2 hn Rl h hQ2)
      split at h
      · rename_i t
        have h1 : s.env t = .one (.ro .bool b) := hb
        cases b with
        | true =>
          rw [show ({ s with env := s.env.put (some t) (roV .bool true) } : St) = s from St.same h1] at h
          exact fin h
        | false =>
          rw [show ({ s with env := s.env.put (some t) (roV .bool false) } : St) = s from St.same h1] at h
          exact fin h
      · exact fin h
    · cases h
  | block i c ih =>
    intro base hL R r K B u u' s a w φ β Q ho hl hn Rl h hQ
    refine wp_block (ih base hL ho hl hn Rl h fun e s' a' w' B' φ' β' hk q1 q2 q3 q4 q5 => ?_)
    cases e with
    | normal => exact hQ .normal s' a' w' B' φ' β' hk q1 q2 q3 q4 q5
    | ret => exact hQ .ret s' a' w' B' φ' β' hk q1 q2 q3 q4 q5
    | exit j =>
      simp only at hk
      show if j = i then Q .normal a' w' else Q (.exit j) a' w'
      cases hb : Nat.beq j i with
      | true =>
        rw [hb] at hk
        rw [if_pos (beq_eq hb)]
        exact hQ .normal s' a' w' B' φ' β' hk q1 q2 q3 q4 q5
      | false =>
        rw [hb] at hk
        rw [if_neg (fun e => by subst e; rw [beq_self] at hb; cases hb)]
        exact hQ (.exit j) s' a' w' B' φ' β' hk q1 q2 q3 q4 q5
  | loop c ih =>
    intro base hL R r K B u u' s a w φ β Q ho hl hn Rl h hQ
    injection ho with ho
    subst ho
    simp only [codeF] at h
    split at h
    · rename_i l hl0
      obtain ⟨x, h1, h⟩ := ob_some h
      obtain ⟨φ1, β1, R1, g1⟩ := view_sound Rl h1 []
      refine hL 0 (by simp [nloops]) l (by simpa using hl0) _ _ x r h R1 hn fun j y a' w' B' φ' β' hk q1 q2 q3 q4 q5 => ?_
      exact hQ _ _ a' w' B' φ' β' hk (q1.less (NewU.sub (by simp))) (g1.trans q2) q3 q4 q5
    · cases h
  | _ => intro base hL R r K B u u' s a w φ β Q ho hl hn Rl h hQ; cases h
end
end Go.PV
