/- Whole functions. -/
import Derived.Test.YthkejedgfhjdiaaPvLoop
set_option linter.unusedVariables false
set_option linter.all false
namespace Go.PV
open Go

section
variable {P : Program} {Γ : Tab} {G : GTab} {B : Nat → Prop} {w : World}

theorem entryV_rel : ∀ {ps : List (Mode × Ty)} {vals : List Value} {x : argsT ps} {bs : List Nat} (slot d : Nat), ArgsR P w B ps vals x bs →
    ∃ N : List NObj, (entryV ps x slot d).2 = N.map NObj.up ∧ bs = N.flatMap (·.bs) ∧ N.map (·.id) = List.range' d N.length ∧ (∀ n ∈ N, n.Ok P w B ∧ n.hv = 0) ∧ vals.length = ps.length ∧
      ∀ σ φ', (∀ n ∈ N, φ' n.id = some n.hdr) → ∀ t, VR P σ φ' w B (envOf (entryV ps x slot d).1 t) (if slot ≤ t then (vals[t - slot]?).getD undef else undef) := by
  intro ps
  induction ps with
  | nil =>
    intro vals x bs slot d h
    cases vals with
    | cons v vs => exact False.elim h
    | nil => cases h; exact ⟨[], rfl, rfl, rfl, by simp, rfl, fun σ φ' _ t => trivial⟩
  | cons p ps ih =>
    intro vals x bs slot d h
    obtain ⟨m, t⟩ := p
    cases vals with
    | nil => exact False.elim h
    | cons v vs =>
      obtain ⟨us, b1, b2, rfl, rfl, h3, h4⟩ := h
      have shift : ∀ {t' : Nat} {val : Value}, slot ≠ t' → (if slot + 1 ≤ t' then (vs[t' - (slot + 1)]?).getD undef else undef) = (if slot ≤ t' then ((t.mk us :: vs)[t' - slot]?).getD undef else undef) := fun {t' _} hne => by
        by_cases hle : slot + 1 ≤ t'
        · rw [if_pos hle, if_pos (by omega)]
          have : t' - slot = (t' - (slot + 1)) + 1 := by omega
          rw [this, List.getElem?_cons_succ]
        · rw [if_neg hle, if_neg (by omega)]
      have cellsOf : ∀ {cs : List C} {σ : Sto} {φ' : Hd}, CsR P σ φ' w B cs us → us.length = t.n → VR P σ φ' w B (ofCells t.agg cs) (t.mk us) := fun {cs σ φ'} hc hl => by
        have := ofCells_rel (b := t.agg) hc (fun ha => by rw [hl, n_one ha])
        exact this
      have at0 : (if slot ≤ slot then ((t.mk us :: vs)[slot - slot]?).getD undef else undef) = t.mk us := by simp
      cases m with
      | ro =>
        rcases h3 with ⟨_, h3, rfl⟩ | ⟨h3, _⟩
        · obtain ⟨N, p1, p2, p3, p4, p5, p6⟩ := ih (slot + 1) d h4
          refine ⟨N, p1, p2, p3, p4, by simp [p5], fun σ φ' hφ t' => ?_⟩
          show VR P σ φ' w B (cond (Nat.beq t' slot) (roV t x.1) (envOf (entryV ps x.2 (slot + 1) d).1 t')) _
          by_cases hts : t' = slot
          · subst hts
            rw [at0, beq_self]
            exact ⟨us, rfl, h3⟩
          · rw [beq_ne hts, ← shift (val := undef) (Ne.symm hts)]
            exact p6 σ φ' hφ t'
        · exact absurd rfl h3
      | own =>
        rcases h3 with ⟨h3, _⟩ | ⟨_, _, h3⟩
        · cases h3
        · obtain ⟨N1, r1, r2, r3, r4, r5, r6, r7⟩ := mkOwn_rel d h3
          obtain ⟨N, p1, p2, p3, p4, p5, p6⟩ := ih (slot + 1) (mkOwn t x.1 d).2.2 h4
          refine ⟨N1 ++ N, by show (mkOwn t x.1 d).2.1 ++ (entryV ps x.2 (slot + 1) (mkOwn t x.1 d).2.2).2 = _; rw [r1, p1, List.map_append], by rw [List.flatMap_append, ← r2, ← p2], ?_, fun n hn => ?_, by simp [p5], fun σ φ' hφ t' => ?_⟩
          · rw [List.map_append, r3, p3, r4, List.length_append, List.range'_append_1]
          · rcases List.mem_append.1 hn with h | h
            · exact r6 n h
            · exact p4 n h
          · show VR P σ φ' w B (cond (Nat.beq t' slot) (ofCells t.agg (mkOwn t x.1 d).1) (envOf (entryV ps x.2 (slot + 1) (mkOwn t x.1 d).2.2).1 t')) _
            by_cases hts : t' = slot
            · subst hts
              rw [at0, beq_self]
              exact cellsOf (r7 σ φ' fun n hn => hφ n (List.mem_append_left _ hn)) h3.len
            · rw [beq_ne hts, ← shift (val := undef) (Ne.symm hts)]
              exact p6 σ φ' (fun n hn => hφ n (List.mem_append_right _ hn)) t'
      | «mut» =>
        rcases h3 with ⟨h3, _⟩ | ⟨_, _, h3⟩
        · cases h3
        · obtain ⟨N1, r1, r2, r3, r4, r5, r6, r7⟩ := mkOwn_rel d h3
          obtain ⟨N, p1, p2, p3, p4, p5, p6⟩ := ih (slot + 1) (mkOwn t x.1 d).2.2 h4
          refine ⟨N1 ++ N, by show (mkOwn t x.1 d).2.1 ++ (entryV ps x.2 (slot + 1) (mkOwn t x.1 d).2.2).2 = _; rw [r1, p1, List.map_append], by rw [List.flatMap_append, ← r2, ← p2], ?_, fun n hn => ?_, by simp [p5], fun σ φ' hφ t' => ?_⟩
          · rw [List.map_append, r3, p3, r4, List.length_append, List.range'_append_1]
          · rcases List.mem_append.1 hn with h | h
            · exact r6 n h
            · exact p4 n h
          · show VR P σ φ' w B (cond (Nat.beq t' slot) (ofCells t.agg (mkOwn t x.1 d).1) (envOf (entryV ps x.2 (slot + 1) (mkOwn t x.1 d).2.2).1 t')) _
            by_cases hts : t' = slot
            · subst hts
              rw [at0, beq_self]
              exact cellsOf (r7 σ φ' fun n hn => hφ n (List.mem_append_left _ hn)) h3.len
            · rw [beq_ne hts, ← shift (val := undef) (Ne.symm hts)]
              exact p6 σ φ' (fun n hn => hφ n (List.mem_append_right _ hn)) t'

theorem entry_sound {ps : List (Mode × Ty)} {vals : List Value} {x : argsT ps} {bs : List Nat} (h : ArgsR P w B ps vals x bs) (hnd : bs.Nodup) (hbs : ∀ b ∈ bs, ¬ B b ∧ b < w.heap.size) (hlow : ∀ b, B b → b < w.heap.size)
    {n : Nat} (hn : vals.length ≤ n) (h32 : (entryV ps x 0 0).2.length ≤ 32) :
    ∃ N : List NObj, (entryV ps x 0 0).2 = N.map NObj.up ∧ bs = N.flatMap (·.bs) ∧ N.map (·.id) = List.range' 0 N.length ∧
      Rel P B (NewU []) (entry ps x) (vals.toArray ++ Array.replicate (n - vals.length) undef) w (phiL (fun _ => none) N) (betaL (fun _ => []) N) ∧
      ∀ i b, b ∈ betaL (fun _ => []) N i → b ∈ bs := by
  obtain ⟨N, p1, p2, p3, p4, p5, p6⟩ := entryV_rel 0 0 h
  have hLnd : (N.map (·.id)).Nodup := by rw [p3]; exact List.nodup_range'
  have hmem : ∀ k ∈ N, ∀ b ∈ k.bs, b ∈ bs := fun k hk b hb => by rw [p2]; exact List.mem_flatMap.2 ⟨k, hk, hb⟩
  have hβ : ∀ i b, b ∈ betaL (fun _ => []) N i → ∃ k ∈ N, k.id = i ∧ b ∈ k.bs := fun i b hb => by
    unfold betaL at hb
    split at hb
    · rename_i k hk
      obtain ⟨h1, h2⟩ := look_some hk
      exact ⟨k, h1, h2, hb⟩
    · simp at hb
  have hpw : N.Pairwise fun a b => ∀ x ∈ a.bs, x ∉ b.bs := by
    rw [p2] at hnd
    have := List.pairwise_flatMap.1 (show (N.flatMap (·.bs)).Pairwise (· ≠ ·) from hnd)
    exact this.2.imp fun h x hx hx' => h x hx x hx' rfl
  have hσ : ∀ j, (entry ps x).sto j = match look N j with
      | some k => some k.o
      | none => none := fun j => by
    show (Sto.puts (fun _ => none) (entryV ps x 0 0).2) j = _
    rw [p1, puts_up _ _ _ hLnd]
    cases look N j <;> rfl
  refine ⟨N, p1, p2, p3, ⟨fun t => ?_, fun id o ho => ?_, fun i j hij _ _ b hbi hbj => ?_, hlow, fun i hi => ?_⟩, fun i b hb => ?_⟩
  · have := p6 (entry ps x).sto (phiL (fun _ => none) N) (fun k hk => phiL_mem hLnd hk) t
    have e : (vals.toArray ++ Array.replicate (n - vals.length) undef).getD t undef = (if 0 ≤ t then (vals[t - 0]?).getD undef else undef) := by
      rw [if_pos (Nat.zero_le _), Nat.sub_zero, Array.getD_eq_getD_getElem?, Array.getElem?_append]
      by_cases ht : t < vals.length
      · rw [if_pos (by simpa using ht)]
        simp
      · rw [if_neg (by simpa using ht), List.getElem?_eq_none (by omega)]
        cases hq : (Array.replicate (n - vals.length) undef)[t - vals.toArray.size]? with
        | none => rfl
        | some v => rw [Array.getElem?_replicate] at hq; split at hq <;> simp_all
    rw [e]
    exact this
  · rw [hσ] at ho
    cases hl : look N id with
    | none => rw [hl] at ho; cases ho
    | some k =>
      obtain ⟨h1, h2⟩ := look_some hl
      subst h2
      rw [hl] at ho
      injection ho with ho
      subst ho
      have hb : betaL (fun _ => []) N k.id = k.bs := by simp [betaL, hl]
      refine ⟨k.hdr, phiL_mem hLnd h1, ?_, ?_, fun b hbk => ?_⟩
      · rw [hb]; exact (p4 k h1).1.1
      · rw [hb]
        obtain ⟨l1, l2, rfl⟩ := List.append_of_mem h1
        rw [p2, List.flatMap_append, List.flatMap_cons, List.nodup_append, List.nodup_append] at hnd
        exact hnd.2.1.1
      · rw [hb] at hbk
        exact hbs b (hmem k h1 b hbk)
  · obtain ⟨k, h1, h2, h3⟩ := hβ i b hbi
    obtain ⟨k', h1', h2', h3'⟩ := hβ j b hbj
    have hne : k ≠ k' := fun e => hij (by rw [← h2, ← h2', e])
    obtain ⟨a, ha, rfl⟩ := List.getElem_of_mem h1
    obtain ⟨b', hb', rfl⟩ := List.getElem_of_mem h1'
    have hab : a ≠ b' := fun e => hne (by subst e; rfl)
    rcases Nat.lt_or_gt_of_ne hab with hl | hl
    · exact List.pairwise_iff_getElem.1 hpw a b' ha hb' hl b h3 h3'
    · exact List.pairwise_iff_getElem.1 hpw b' a hb' ha hl b h3' h3
  · unfold phiL
    cases hl : look N i with
    | none => rfl
    | some k =>
      obtain ⟨h1, h2⟩ := look_some hl
      have hm : k.id ∈ N.map (·.id) := List.mem_map.2 ⟨k, h1, rfl⟩
      rw [p3, List.mem_range'_1] at hm
      have h3 : N.length ≤ 32 := by rw [p1, List.length_map] at h32; exact h32
      rw [h2] at hm
      exact absurd (Nat.lt_of_lt_of_le hm.2 (by omega)) (Nat.not_lt_of_le hi.1)
  · obtain ⟨k, h1, _, h3⟩ := hβ i b hb
    exact hmem k h1 b h3
end
end Go.PV
