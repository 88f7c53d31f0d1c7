/- Loops. -/
import Derived.Test.YtahehkidnfmfnaaGreatPvCode
set_option linter.all false
namespace Go.PV
open Go

theorem least {p : Nat → Prop} (h : ∃ k, p k) : ∃ k, p k ∧ ∀ j, p j → k ≤ j := by
  obtain ⟨k, hk⟩ := h
  induction k using Nat.strongRecOn with
  | _ k ih =>
    by_cases hq : ∃ j, j < k ∧ p j
    · obtain ⟨j, h1, h2⟩ := hq
      exact ih j h1 h2
    · exact ⟨k, hk, fun j hj => Nat.le_of_not_lt fun hl => hq ⟨j, hl, hj⟩⟩

theorem exFind_spec : ∀ {l : List (Ex × Sh)} {e : Ex} {n j : Nat}, exFind l e n = some j → n ≤ j ∧ ∃ p, l[j - n]? = some p ∧ p.1 = e := by
  intro l
  induction l with
  | nil => intro e n j h; cases h
  | cons p l ih =>
    intro e n j h
    unfold exFind at h
    cases hb : exb p.1 e with
    | true =>
      rw [hb] at h
      injection h with h
      subst h
      exact ⟨Nat.le_refl _, p, by simp, exb_eq hb⟩
    | false =>
      rw [hb] at h
      obtain ⟨h1, q, h2, h3⟩ := ih h
      refine ⟨by omega, q, ?_, h3⟩
      have : j - n = (j - (n + 1)) + 1 := by omega
      rw [this]
      simpa using h2

section
variable {P : Program} {Γ : Tab} {G : GTab}

theorem loop_ok (hP : ProgOk P Γ) (hG : GOk P G) (hD : ∀ ops, DrawOk P Γ G ops) {n : Nat} {L : List LSum} {c : Code} {l : LSum}
    (F : (R : Type) → Nat → l.sh.T → ((j : Nat) → ((l.exs.getD j (.ret, Sh.none)).2).T → Option R) → Option R)
    (h0 : ∀ R x ks, F R 0 x ks = none) (hstep : ∀ R k x ks, F R (k + 1) x ks = roundF G Γ L c l.sh l.exs (fun y => F R k y ks) ks x)
    (hf : ∀ R x ks r, l.f (R := R) x ks = some r → ∃ k, F R k x ks = some r) (hL : ∀ i, i < nloops c → ∀ l', L[i]? = some l' → LoopOk P n l' (loopAt c i))
    (hc : (okC Γ c []).isSome = true) (hlow : lowC n c = true) : LoopOk P n l c := by
  intro R ks x r h B a w φ β Q Rl hn hQ
  obtain ⟨u', hc'⟩ := Option.isSome_iff_exists.1 hc
  obtain ⟨k, hk⟩ := hf _ _ _ _ h
  let J : Nat → Act → World → Prop := fun k a' w' => ∃ y B' φ' β', F R k y ks = some r ∧ Rel P B' (NewU []) (fill l.sh y) a'.tmps w' φ' β' ∧ Gr (fill l.sh x).sto w B β (fill l.sh y).sto w' B' β' ∧
    a'.tmps.size = a.tmps.size ∧ a'.defers = a.defers ∧ Same (asgC c) a a'
  refine wp_loop (fun a' w' => ∃ k, J k a' w') (fun a' w' => open Classical in if h : ∃ k, J k a' w' then Classical.choose (least h) else 0) ⟨k, x, B, φ, β, hk, Rl, Gr.refl _ _ _ _, rfl, rfl, Same.refl _ _⟩ (fun a' w' hI => ?_)
  have hle : ∀ {a w} (h : ∃ k, J k a w), J (Classical.choose (least h)) a w ∧ ∀ j, J j a w → Classical.choose (least h) ≤ j := fun h => Classical.choose_spec (least h)
  obtain ⟨⟨y, B', φ', β', hF, R1, g1, z1, z2, z3⟩, _⟩ := hle hI
  have hμ : (open Classical in if h : ∃ k, J k a' w' then Classical.choose (least h) else 0) = Classical.choose (least hI) := dif_pos hI
  simp only [hμ]
  generalize Classical.choose (least hI) = k' at hF
  cases k' with
  | zero => rw [h0] at hF; cases hF
  | succ k' =>
    rw [hstep] at hF
    unfold roundF at hF
    refine code_sound hP hG hD c 0 (by simpa using hL) hc' hlow (by rw [z1, hn]) R1 hF fun e s' a'' w'' B'' φ'' β'' hk' q1 q2 q3 q4 q5 => ?_
    have exits : (match exFind l.exs e 0 with
        | some j => ob (view (l.exs.getD j (.ret, Sh.none)).2 s') (ks j)
        | none => none) = some r → Q (toExit e) a'' w'' := fun hk' => by
      split at hk'
      · rename_i j hj
        obtain ⟨z, h1, h2⟩ := ob_some hk'
        obtain ⟨φ3, β3, R3, g3⟩ := view_sound q1 h1 []
        obtain ⟨_, p, h3, h4⟩ := exFind_spec hj
        have h5 : l.exs.getD j (.ret, Sh.none) = p := by
          rw [Nat.sub_zero] at h3
          simp [List.getD, h3]
        have := hQ j z a'' w'' B'' φ3 β3 h2 R3 ((g1.trans q2).trans g3) (by rw [q3, z1]) (by rw [q4, z2]) (z3.trans q5)
        rw [h5, h4] at this
        exact this
      · cases hk'
    cases e with
    | normal =>
      obtain ⟨z, h1, h2⟩ := ob_some (show ob (view l.sh s') _ = some r from hk')
      obtain ⟨φ3, β3, R3, g3⟩ := view_sound q1 h1 []
      have hJ : J k' a'' w'' := ⟨z, B'', φ3, β3, h2, R3, (g1.trans q2).trans g3, by rw [q3, z1], by rw [q4, z2], z3.trans q5⟩
      refine ⟨⟨k', hJ⟩, ?_⟩
      have hex : ∃ k, J k a'' w'' := ⟨k', hJ⟩
      rw [dif_pos hex]
      have := (hle hex).2 k' hJ
      omega
    | exit i => exact exits hk'
    | ret => exact exits hk'

end
end Go.PV
