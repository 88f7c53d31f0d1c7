/- Whole functions. -/
import Derived.Test.YtahehkidnfmfnaaGreatPvLoop
set_option linter.all false
namespace Go.PV
open Go

section
variable {P : Program} {Γ : Tab} {G : GTab} {B : Nat → Prop} {w : World}

theorem entryV_rel : ∀ {ps : List (Mode × Ty)} {vals : List Value} {x : argsT ps} {bs : List Nat} (slot d : Nat), ArgsR P w B ps vals x bs →
    ∃ N : List NObj, (entryV ps x slot d).2 = N.map NObj.up ∧ bs = N.flatMap (·.bs) ∧ N.map (·.id) = List.range' d N.length ∧ (∀ n ∈ N, n.Ok P w B) ∧ vals.length = ps.length ∧
      ∀ σ φ', (∀ n ∈ N, φ' n.id = some n.hdr) → ∀ t, VR P σ φ' w B (envOf (entryV ps x slot d).1 t) (if slot ≤ t then (vals[t - slot]?).getD undef else undef) := by
  intro ps
  induction ps with
  | nil =>
    intro vals x bs slot d h
    cases vals with
    | cons v vs => exact False.elim h
    | nil => cases h; exact ⟨[], rfl, rfl, rfl, by simp, rfl, fun σ φ' _ t => trivial⟩
  | cons p ps ih =>
    intro vals x bs slot d h
    obtain ⟨m, t⟩ := p
    cases vals with
    | nil => exact False.elim h
    | cons v vs =>
      obtain ⟨us, b1, b2, rfl, rfl, h3, h4⟩ := h
      have shift : ∀ {t' : Nat} {val : Value}, slot ≠ t' → (if slot + 1 ≤ t' then (vs[t' - (slot + 1)]?).getD undef else undef) = (if slot ≤ t' then ((t.mk us :: vs)[t' - slot]?).getD undef else undef) := fun {t' _} hne => by
        by_cases hle : slot + 1 ≤ t'
        · rw [if_pos hle, if_pos (by omega)]
          have : t' - slot = (t' - (slot + 1)) + 1 := by omega
          rw [this, List.getElem?_cons_succ]
        · rw [if_neg hle, if_neg (by omega)]
      have cellsOf : ∀ {cs : List C} {σ : Sto} {φ' : Hd}, CsR P σ φ' w B cs us → us.length = t.n → VR P σ φ' w B (ofCells t.agg cs) (t.mk us) := fun {cs σ φ'} hc hl => by
        have := ofCells_rel (b := t.agg) hc (fun ha => by rw [hl, n_one ha])
        exact this
      have at0 : (if slot ≤ slot then ((t.mk us :: vs)[slot - slot]?).getD undef else undef) = t.mk us := by simp
      cases m with
      | ro =>
        rcases h3 with ⟨_, h3, rfl⟩ | ⟨h3, _⟩
        · obtain ⟨N, p1, p2, p3, p4, p5, p6⟩ := ih (slot + 1) d h4
          refine ⟨N, p1, p2, p3, p4, by simp [p5], fun σ φ' hφ t' => ?_⟩
          show VR P σ φ' w B (cond (Nat.beq t' slot) (roV t x.1) (envOf (entryV ps x.2 (slot + 1) d).1 t')) _
          by_cases hts : t' = slot
          · subst hts
            rw [at0, beq_self]
            exact ⟨us, rfl, h3⟩
          · rw [beq_ne hts, ← shift (val := undef) (Ne.symm hts)]
            exact p6 σ φ' hφ t'
        · exact absurd rfl h3
      | own =>
        rcases h3 with ⟨h3, _⟩ | ⟨_, _, h3⟩
        · cases h3
        · obtain ⟨N1, r1, r2, r3, r4, r5, r6, r7⟩ := mkOwn_rel d h3
          obtain ⟨N, p1, p2, p3, p4, p5, p6⟩ := ih (slot + 1) (mkOwn t x.1 d).2.2 h4
          refine ⟨N1 ++ N, by show (mkOwn t x.1 d).2.1 ++ (entryV ps x.2 (slot + 1) (mkOwn t x.1 d).2.2).2 = _; rw [r1, p1, List.map_append], by rw [List.flatMap_append, ← r2, ← p2], ?_, fun n hn => ?_, by simp [p5], fun σ φ' hφ t' => ?_⟩
          · rw [List.map_append, r3, p3, r4, List.length_append, List.range'_append_1]
          · rcases List.mem_append.1 hn with h | h
            · exact r6 n h
            · exact p4 n h
          · show VR P σ φ' w B (cond (Nat.beq t' slot) (ofCells t.agg (mkOwn t x.1 d).1) (envOf (entryV ps x.2 (slot + 1) (mkOwn t x.1 d).2.2).1 t')) _
            by_cases hts : t' = slot
            · subst hts
              rw [at0, beq_self]
              exact cellsOf (r7 σ φ' fun n hn => hφ n (List.mem_append_left _ hn)) h3.len
            · rw [beq_ne hts, ← shift (val := undef) (Ne.symm hts)]
              exact p6 σ φ' (fun n hn => hφ n (List.mem_append_right _ hn)) t'
      | «mut» =>
        rcases h3 with ⟨h3, _⟩ | ⟨_, _, h3⟩
        · cases h3
        · obtain ⟨N1, r1, r2, r3, r4, r5, r6, r7⟩ := mkOwn_rel d h3
          obtain ⟨N, p1, p2, p3, p4, p5, p6⟩ := ih (slot + 1) (mkOwn t x.1 d).2.2 h4
          refine ⟨N1 ++ N, by show (mkOwn t x.1 d).2.1 ++ (entryV ps x.2 (slot + 1) (mkOwn t x.1 d).2.2).2 = _; rw [r1, p1, List.map_append], by rw [List.flatMap_append, ← r2, ← p2], ?_, fun n hn => ?_, by simp [p5], fun σ φ' hφ t' => ?_⟩
          · rw [List.map_append, r3, p3, r4, List.length_append, List.range'_append_1]
          · rcases List.mem_append.1 hn with h | h
            · exact r6 n h
            · exact p4 n h
          · show VR P σ φ' w B (cond (Nat.beq t' slot) (ofCells t.agg (mkOwn t x.1 d).1) (envOf (entryV ps x.2 (slot + 1) (mkOwn t x.1 d).2.2).1 t')) _
            by_cases hts : t' = slot
            · subst hts
              rw [at0, beq_self]
              exact cellsOf (r7 σ φ' fun n hn => hφ n (List.mem_append_left _ hn)) h3.len
            · rw [beq_ne hts, ← shift (val := undef) (Ne.symm hts)]
              exact p6 σ φ' (fun n hn => hφ n (List.mem_append_right _ hn)) t'

theorem selfC_rel {σ : Sto} {φ : Hd} {k : Nat} {V0 : V} {u self : Value} (h : VR P σ φ w B V0 u) (hm : ∀ f1 y, V0 = .one (.ro (.sptr f1 k) y) → CapR P φ w B self .me u) : CapR P φ w B self (selfC k V0) u := by
  unfold selfC
  split
  · rename_i f1 k1 y1
    cases hkk : Nat.beq k k1 with
    | false => trivial
    | true =>
      have := beq_eq hkk
      subst this
      exact hm _ _ rfl
  · rename_i c1 _
    unfold Cap.of
    split
    · obtain ⟨g1, h9, rfl⟩ := h
      exact ⟨h9, g1, rfl⟩
    · obtain ⟨us1, h9, h10⟩ := h
      have h11 := h10
      obtain ⟨g1, us2, rfl, _⟩ := h10
      subst h9
      exact h11
    · trivial
  · trivial

theorem envOf_self {ev0 : List (Nat × V)} : ∀ {ev : List (Nat × V)} {t : Nat}, envOf (ev.map fun q => (q.1, selfV ev0 q.2)) t = selfV ev0 (envOf ev t) := by
  intro ev
  induction ev with
  | nil => intro t; rfl
  | cons p ev ih =>
    intro t
    obtain ⟨n, v⟩ := p
    show cond (Nat.beq t n) (selfV ev0 v) (envOf (ev.map fun q => (q.1, selfV ev0 q.2)) t) = selfV ev0 (cond (Nat.beq t n) v (envOf ev t))
    rw [ih]
    cases Nat.beq t n <;> rfl

theorem mkOwn_self {t : Ty} {x : t.T} {d f k : Nat} {y : (Ty.sptr f k).T} (h : ofCells t.agg (mkOwn t x d).1 = .one (.ro (.sptr f k) y)) : t = .sptr f k := by
  cases t <;> simp [ofCells, mkOwn, Ty.agg] at h <;> first | exact h.elim | (obtain ⟨rfl, rfl⟩ := h; rfl) | skip

theorem entryV_self : ∀ {ps : List (Mode × Ty)} {x : argsT ps} {slot d t f k : Nat} {y : (Ty.sptr f k).T}, envOf (entryV ps x slot d).1 t = .one (.ro (.sptr f k) y) → slot ≤ t ∧ ∃ m, ps[t - slot]? = some (m, .sptr f k) := by
  intro ps
  induction ps with
  | nil => intro x slot d t f k y h; cases h
  | cons p ps ih =>
    intro x slot d t f k y h
    obtain ⟨m, ty⟩ := p
    have go : ∀ {v : V} {d' : Nat}, cond (Nat.beq t slot) v (envOf (entryV ps x.2 (slot + 1) d').1 t) = .one (.ro (.sptr f k) y) → (v = .one (.ro (.sptr f k) y) → ty = .sptr f k) → slot ≤ t ∧ ∃ m', ((m, ty) :: ps)[t - slot]? = some (m', .sptr f k) := fun {v d'} h hv => by
      cases hb : Nat.beq t slot with
      | true =>
        rw [hb] at h
        have := beq_eq hb
        subst this
        exact ⟨Nat.le_refl _, m, by rw [Nat.sub_self, ← hv h]; rfl⟩
      | false =>
        rw [hb] at h
        obtain ⟨h1, m', h2⟩ := ih h
        refine ⟨by omega, m', ?_⟩
        have : t - slot = (t - (slot + 1)) + 1 := by omega
        rw [this]
        simpa using h2
    cases m with
    | ro => exact go (v := roV ty x.1) h fun e => by injection e with e; injection e
    | own => exact go (v := ofCells ty.agg (mkOwn ty x.1 d).1) h mkOwn_self
    | «mut» => exact go (v := ofCells ty.agg (mkOwn ty x.1 d).1) h mkOwn_self

theorem entryV_at : ∀ {ps : List (Mode × Ty)} {x : argsT ps} {slot d : Nat}, (entryV ps x slot d).1.length = ps.length ∧ ∀ (j : Nat) p, (entryV ps x slot d).1[j]? = some p → envOf (entryV ps x slot d).1 (slot + j) = p.2 := by
  intro ps
  induction ps with
  | nil => intro x slot d; exact ⟨rfl, fun j p h => by simp [entryV] at h⟩
  | cons q ps ih =>
    intro x slot d
    obtain ⟨m, ty⟩ := q
    have go : ∀ {v : V} {d' : Nat}, ((slot, v) :: (entryV ps x.2 (slot + 1) d').1).length = ((m, ty) :: ps).length ∧ ∀ (j : Nat) p, ((slot, v) :: (entryV ps x.2 (slot + 1) d').1)[j]? = some p → envOf ((slot, v) :: (entryV ps x.2 (slot + 1) d').1) (slot + j) = p.2 := fun {v d'} => by
      obtain ⟨h1, h2⟩ := ih (x := x.2) (slot := slot + 1) (d := d')
      refine ⟨by simp [h1], fun j p hp => ?_⟩
      cases j with
      | zero =>
        simp at hp
        subst hp
        show cond (Nat.beq slot slot) v _ = v
        rw [beq_self]
        rfl
      | succ j =>
        have := h2 j p (by simpa using hp)
        show cond (Nat.beq (slot + (j + 1)) slot) v (envOf _ (slot + (j + 1))) = p.2
        rw [beq_ne (by omega)]
        have e : slot + (j + 1) = slot + 1 + j := by omega
        rw [e]
        exact this
    cases m with
    | ro => exact go
    | own => exact go
    | «mut» => exact go

theorem entry_sound {ps : List (Mode × Ty)} {vals : List Value} {x : argsT ps} {bs : List Nat} {f : FuncId} (h : ArgsR P w B ps vals x bs) (hself : SelfOk f ps vals w) (hnd : bs.Nodup) (hbs : ∀ b ∈ bs, ¬ B b ∧ b < w.heap.size) (hlow : ∀ b, B b → b < w.heap.size)
    {n : Nat} (hn : vals.length ≤ n) (h32 : (entryV ps x 0 0).2.length ≤ 32) :
    ∃ N : List NObj, (entryV ps x 0 0).2 = N.map NObj.up ∧ bs = N.flatMap (·.bs) ∧ N.map (·.id) = List.range' 0 N.length ∧
      Rel P B (NewU []) (entry ps x) (vals.toArray ++ Array.replicate (n - vals.length) undef) w (phiL (fun _ => none) N) (betaL (fun _ => []) N) ∧
      ∀ i b, b ∈ betaL (fun _ => []) N i → b ∈ bs := by
  obtain ⟨N, p1, p2, p3, p4, p5, p6⟩ := entryV_rel 0 0 h
  have hLnd : (N.map (·.id)).Nodup := by rw [p3]; exact List.nodup_range'
  have hmem : ∀ k ∈ N, ∀ b ∈ k.bs, b ∈ bs := fun k hk b hb => by rw [p2]; exact List.mem_flatMap.2 ⟨k, hk, hb⟩
  have hβ : ∀ i b, b ∈ betaL (fun _ => []) N i → ∃ k ∈ N, k.id = i ∧ b ∈ k.bs := fun i b hb => by
    unfold betaL at hb
    split at hb
    · rename_i k hk
      obtain ⟨h1, h2⟩ := look_some hk
      exact ⟨k, h1, h2, hb⟩
    · simp at hb
  have hpw : N.Pairwise fun a b => ∀ x ∈ a.bs, x ∉ b.bs := by
    rw [p2] at hnd
    have := List.pairwise_flatMap.1 (show (N.flatMap (·.bs)).Pairwise (· ≠ ·) from hnd)
    exact this.2.imp fun h x hx hx' => h x hx x hx' rfl
  have hσ : ∀ j, (entry ps x).sto j = match look N j with
      | some k => some k.o
      | none => none := fun j => by
    show (Sto.puts (fun _ => none) (entryV ps x 0 0).2) j = _
    rw [p1, puts_up _ _ _ hLnd]
    cases look N j <;> rfl
  refine ⟨N, p1, p2, p3, ⟨fun t => ?_, fun id o ho => ?_, fun i j hij _ _ b hbi hbj => ?_, hlow, fun i hi => ?_⟩, fun i b hb => ?_⟩
  · have p7 := p6 (entry ps x).sto (phiL (fun _ => none) N) (fun k hk => phiL_mem hLnd hk)
    have eT : ∀ t, (vals.toArray ++ Array.replicate (n - vals.length) undef).getD t undef = (if 0 ≤ t then (vals[t - 0]?).getD undef else undef) := by
      intro t
      rw [if_pos (Nat.zero_le _), Nat.sub_zero, Array.getD_eq_getD_getElem?, Array.getElem?_append]
      by_cases ht : t < vals.length
      · rw [if_pos (by simpa using ht)]
        simp
      · rw [if_neg (by simpa using ht), List.getElem?_eq_none (by omega)]
        cases hq : (Array.replicate (n - vals.length) undef)[t - vals.toArray.size]? with
        | none => rfl
        | some v => rw [Array.getElem?_replicate] at hq; split at hq <;> simp_all
    rw [eT]
    show VR P _ _ w B (envOf (cond (noSelf ps) (entryV ps x 0 0).1 ((entryV ps x 0 0).1.map fun q => (q.1, selfV (entryV ps x 0 0).1 q.2))) t) _
    cases hns : noSelf ps with
    | true => exact p7 t
    | false =>
      show VR P _ _ w B (envOf ((entryV ps x 0 0).1.map fun q => (q.1, selfV (entryV ps x 0 0).1 q.2)) t) _
      rw [envOf_self]
      have h7 := p7 t
      unfold selfV
      split
      · rename_i f0 k y he
        rw [he] at h7
        obtain ⟨_, m, hps⟩ := entryV_self he
        rw [Nat.sub_zero] at hps
        obtain ⟨rfl, g, hv, hcell, hone⟩ := hself t m f0 k hps
        obtain ⟨us, hus, g', caps', rfl, hB, _⟩ := h7
        rw [if_pos (Nat.zero_le _), Nat.sub_zero, hv] at hus ⊢
        have hus : Value.pointer (some ⟨g, 0, none⟩) = .pointer (some ⟨g', 0, none⟩) := hus
        injection hus with hus
        injection hus with hus
        injection hus with hus
        subst hus
        obtain ⟨hl1, hat⟩ := entryV_at (ps := ps) (x := x) (slot := 0) (d := 0)
        refine ⟨g, _, rfl, hB, hcell, vals.drop k, rfl, by simp [hl1, p5], hone, fun i c u hc hu => ?_⟩
        rw [List.getElem?_map, List.getElem?_drop] at hc
        rw [List.getElem?_drop] at hu
        cases hq : (entryV ps x 0 0).1[k + i]? with
        | none => rw [hq] at hc; cases hc
        | some p =>
          rw [hq] at hc
          injection hc with hc
          subst hc
          have h8 := p7 (k + i)
          have e0 := hat _ _ hq
          rw [Nat.zero_add] at e0
          rw [e0, if_pos (Nat.zero_le _), Nat.sub_zero, hu, Option.getD_some] at h8
          refine selfC_rel h8 fun f1 y1 he1 => ?_
          rw [he1] at h8 e0
          obtain ⟨_, m1, hps1⟩ := entryV_self e0
          rw [Nat.sub_zero] at hps1
          obtain ⟨_, g1, hv1, hcell1, _⟩ := hself _ m1 f1 k hps1
          rw [hu] at hv1
          injection hv1 with hv1
          subst hv1
          obtain ⟨us1, hus1, g2, caps2, rfl, hB1, _⟩ := h8
          have hus1 : Value.pointer (some ⟨g1, 0, none⟩) = .pointer (some ⟨g2, 0, none⟩) := hus1
          injection hus1 with hus1
          injection hus1 with hus1
          injection hus1 with hus1
          subst hus1
          exact ⟨g1, rfl, hB1, hcell1⟩
      · exact h7
  · rw [hσ] at ho
    cases hl : look N id with
    | none => rw [hl] at ho; cases ho
    | some k =>
      obtain ⟨h1, h2⟩ := look_some hl
      subst h2
      rw [hl] at ho
      injection ho with ho
      subst ho
      have hb : betaL (fun _ => []) N k.id = k.bs := by simp [betaL, hl]
      refine ⟨k.hdr, phiL_mem hLnd h1, ?_, ?_, fun b hbk => ?_⟩
      · rw [hb]; exact (p4 k h1).1 _ _
      · rw [hb]
        obtain ⟨l1, l2, rfl⟩ := List.append_of_mem h1
        rw [p2, List.flatMap_append, List.flatMap_cons, List.nodup_append, List.nodup_append] at hnd
        exact hnd.2.1.1
      · rw [hb] at hbk
        exact hbs b (hmem k h1 b hbk)
  · obtain ⟨k, h1, h2, h3⟩ := hβ i b hbi
    obtain ⟨k', h1', h2', h3'⟩ := hβ j b hbj
    have hne : k ≠ k' := fun e => hij (by rw [← h2, ← h2', e])
    obtain ⟨a, ha, rfl⟩ := List.getElem_of_mem h1
    obtain ⟨b', hb', rfl⟩ := List.getElem_of_mem h1'
    have hab : a ≠ b' := fun e => hne (by subst e; rfl)
    rcases Nat.lt_or_gt_of_ne hab with hl | hl
    · exact List.pairwise_iff_getElem.1 hpw a b' ha hb' hl b h3 h3'
    · exact List.pairwise_iff_getElem.1 hpw b' a hb' ha hl b h3' h3
  · unfold phiL
    cases hl : look N i with
    | none => rfl
    | some k =>
      obtain ⟨h1, h2⟩ := look_some hl
      have hm : k.id ∈ N.map (·.id) := List.mem_map.2 ⟨k, h1, rfl⟩
      rw [p3, List.mem_range'_1] at hm
      have h3 : N.length ≤ 32 := by rw [p1, List.length_map] at h32; exact h32
      rw [h2] at hm
      exact absurd (Nat.lt_of_lt_of_le hm.2 (by omega)) (Nat.not_lt_of_le hi.1)
  · obtain ⟨k, h1, _, h3⟩ := hβ i b hb
    exact hmem k h1 b h3
end
end Go.PV
