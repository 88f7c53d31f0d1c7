/- Statements on data alone. -/
import Derived.Test.YtbnjcjpnpidhmaaGreatPvPure
import Derived.Test.YtbnjcjpnpidhmaaGreatColouringsLawGd
set_option linter.all false
set_option linter.all false
namespace Go.Proofs.YtbnjcjpnpidhmaaGreat
open Go Go.PV Classical
theorem lift_ke {es : List (Int × Int)} {k d : Nat} {v : Nat} {S : List Nat} (hl : ∀ u : Nat, ¬ nearG es (u : Int) (u : Int)) (hS : S.Nodup) (hv : v ∉ S) (hd : (nbIn es S v).length ≤ d) (hk : d + 1 ≤ k) {f g : Nat → Int} (hf : prS es (k : Int) (v :: S) f) (h : KeS es (k : Int) S f g) :
    ∃ g', KeS es (k : Int) (v :: S) f g' ∧ agreeS S g' g ∧ prS es (k : Int) (v :: S) g' := by
  induction h with
  | base => exact ⟨f, .base, fun _ _ => rfl, hf⟩
  | @step g x c _ hx hc hxc ih =>
    obtain ⟨g0, h1, h2, h3⟩ := ih
    have hxv : x ≠ v := fun e => hv (e ▸ hx)
    have hxS : x ∈ v :: S := List.mem_cons_of_mem _ hx
    have hvS : v ∈ v :: S := List.mem_cons_self ..
    -- the swap, where it is the same on S
    have go : ∀ q : Nat → Int, KeS es (k : Int) (v :: S) f q → agreeS S q g → prS es (k : Int) (v :: S) q → (∀ u ∈ S, (kset es (v :: S) q x c u ↔ kset es S g x c u)) → ∃ g', KeS es (k : Int) (v :: S) f g' ∧ agreeS S g' (swapF es S g x c) ∧ prS es (k : Int) (v :: S) g' := by
      intro q c1 c2 c3 c4
      refine ⟨swapF es (v :: S) q x c, .step c1 hxS hc (by rw [c2 x hx]; exact hxc), fun u hu => ?_, ke_pr c3 hxS hc⟩
      unfold swapF
      rw [c2 u hu, c2 x hx]
      by_cases q1 : kset es S g x c u
      · rw [if_pos q1, if_pos ((c4 u hu).2 q1)]
      · rw [if_neg q1, if_neg (fun q2 => q1 ((c4 u hu).1 q2))]
    have sub : ∀ q : Nat → Int, agreeS S q g → ∀ u, kset es S g x c u → kset es (v :: S) q x c u := by
      intro q c2 u hu
      unfold kset at hu ⊢
      rw [c2 x hx]
      refine Rch_congr (fun y z _ hz => ?_) hu
      obtain ⟨w, hw, rfl, hcw⟩ := hz
      exact ⟨w, List.mem_cons_of_mem _ hw, rfl, by rw [c2 w hw]; exact hcw⟩
    -- the node ahead has none of the two colours
    have far : ∀ q : Nat → Int, agreeS S q g → q v ≠ g x → q v ≠ c → ∀ u ∈ S, (kset es (v :: S) q x c u ↔ kset es S g x c u) := by
      intro q c2 n1 n2 u hu
      refine ⟨fun hq => ?_, sub q c2 u⟩
      unfold kset at hq ⊢
      rw [c2 x hx] at hq
      refine Rch_congr (fun y z _ hz => ?_) hq
      obtain ⟨w, hw, rfl, hcw⟩ := hz
      rcases List.mem_cons.1 hw with rfl | hw
      · exact absurd hcw (fun q => q.elim n1 n2)
      · exact ⟨w, hw, rfl, by rw [← c2 w hw]; exact hcw⟩
    by_cases hin : g0 v = g x ∨ g0 v = c
    case neg => exact go g0 h1 h2 h3 (far g0 h2 (fun q => hin (.inl q)) (fun q => hin (.inr q)))
    obtain ⟨b, hb1, hb2⟩ : ∃ b : Int, b ≠ g0 v ∧ ∀ y : Int, (y = g x ∨ y = c) → y ≠ g0 v → y = b := by
      rcases hin with e | e
      · exact ⟨c, by rw [e]; exact fun q => hxc q.symm, fun y hy hne => hy.resolve_left (by rw [← e]; exact hne)⟩
      · exact ⟨g x, by rw [e]; exact hxc, fun y hy hne => hy.resolve_right (by rw [← e]; exact hne)⟩
    by_cases two : ∃ w1 w2, w1 ∈ nbIn es S v ∧ w2 ∈ nbIn es S v ∧ w1 ≠ w2 ∧ g0 w1 = b ∧ g0 w2 = b
    · -- a colour is free for the node ahead
      obtain ⟨w1, w2, m1, m2, hne, e1, e2⟩ := two
      have hnd : (nbIn es S v).Nodup := hS.filter _
      have hlen : ((nbIn es S v).erase w1).length + 1 = (nbIn es S v).length := by
        have := List.length_erase_of_mem m1
        have := List.length_pos_of_mem m1
        omega
      obtain ⟨e, r1, r2, r3⟩ := free_colour (k := k) (l := g0 v :: ((nbIn es S v).erase w1).map g0) (by simp; omega)
      have hfree : ∀ u ∈ v :: S, nearG es (u : Int) (v : Int) → g0 u ≠ e := by
        intro u hu hn q
        rcases List.mem_cons.1 hu with rfl | hu
        · exact hl _ hn
        · have mu := mem_nbIn.2 ⟨hu, hn⟩
          by_cases eu : u = w1
          · subst eu
            have : w2 ∈ (nbIn es S v).erase u := (List.mem_erase_of_ne (fun q => hne q.symm)).2 m2
            exact r3 (List.mem_cons_of_mem _ (List.mem_map.2 ⟨w2, this, by rw [e2, ← e1, q]⟩))
          · exact r3 (List.mem_cons_of_mem _ (List.mem_map.2 ⟨u, (List.mem_erase_of_ne eu).2 mu, q⟩))
      have hev : e ≠ g0 v := fun q => r3 (q ▸ List.mem_cons_self ..)
      have heb : e ≠ b := fun q => hfree w1 (List.mem_cons_of_mem _ (mem_nbIn.1 m1).1) (mem_nbIn.1 m1).2 (by rw [e1, q])
      have hk1 : KeS es (k : Int) (v :: S) f (upd g0 v e) := by
        rw [← ke_one h3 hvS hfree]
        exact .step h1 hvS ⟨r1, r2⟩ (fun q => hev q.symm)
      have hp1 : prS es (k : Int) (v :: S) (upd g0 v e) := by
        rw [← ke_one h3 hvS hfree]
        exact ke_pr h3 hvS ⟨r1, r2⟩
      have ha1 : agreeS S (upd g0 v e) g := fun w hw => by
        rw [upd_other (fun (q : w = v) => hv (q ▸ hw))]
        exact h2 w hw
      exact go _ hk1 ha1 hp1 (far _ ha1 (by rw [upd_same]; exact fun q => heb (hb2 e (.inl q) hev)) (by rw [upd_same]; exact fun q => heb (hb2 e (.inr q) hev)))
    · -- at most one neighbour of the node ahead is in the way
      have one : ∀ w1 w2, w1 ∈ S → w2 ∈ S → nearG es (w1 : Int) (v : Int) → nearG es (w2 : Int) (v : Int) → g0 w1 = b → g0 w2 = b → w1 = w2 := fun w1 w2 a1 a2 a3 a4 a5 a6 => Classical.byContradiction fun q => two ⟨w1, w2, mem_nbIn.2 ⟨a1, a3⟩, mem_nbIn.2 ⟨a2, a4⟩, q, a5, a6⟩
      refine go g0 h1 h2 h3 fun u hu => ⟨fun hq => ?_, sub g0 h2 u⟩
      have key : ∀ {z : Int}, Rch es (inS (v :: S) g0 (g0 x) c) (x : Int) z → ∃ y : Nat, z = (y : Int) ∧ y ∈ v :: S ∧ (g0 y = g0 x ∨ g0 y = c) ∧ (y ≠ v → kset es S g x c y) ∧ (y = v → ∃ w, w ∈ S ∧ nearG es (w : Int) (v : Int) ∧ g0 w = b ∧ kset es S g x c w) := by
        intro z hz
        induction hz with
        | base => exact ⟨x, rfl, hxS, .inl rfl, fun _ => Rch.base, fun e => absurd e hxv⟩
        | @step _ z2 _ hn ha ih =>
          obtain ⟨y, rfl, hy1, hy2, hy3, hy4⟩ := ih
          obtain ⟨w, hw, rfl, hcw⟩ := ha
          refine ⟨w, rfl, hw, hcw, fun hwv => ?_, fun hwv => ?_⟩
          · have hwS := (List.mem_cons.1 hw).resolve_left hwv
            by_cases hyv : y = v
            · obtain ⟨w', i1, i2, i3, i4⟩ := hy4 hyv
              subst hyv
              have hgw : g0 w = b := hb2 _ (by rw [← h2 x hx]; exact hcw) ((h3 y hvS).2 w hw (nearG_symm.1 hn))
              have := one w w' hwS i1 (nearG_symm.1 hn) i2 hgw i3
              rw [this]
              exact i4
            · exact Rch.step (hy3 hyv) hn ⟨w, hwS, rfl, by rw [← h2 w hwS, ← h2 x hx]; exact hcw⟩
          · subst hwv
            have hyv : y ≠ w := fun q => by subst q; exact hl _ hn
            have hyS := (List.mem_cons.1 hy1).resolve_left hyv
            exact ⟨y, hyS, hn, hb2 _ (by rw [← h2 x hx]; exact hy2) ((h3 w hvS).2 y hy1 hn), hy3 hyv⟩
      obtain ⟨y, e, _, _, hy, _⟩ := key hq
      have : u = y := by omega
      subst this
      exact hy (fun q => hv (q ▸ hu))
theorem peels_nodup {es : List (Int × Int)} {d : Nat} : ∀ {S : List Nat}, peels es d S → S.Nodup := by
  intro S
  induction S with
  | nil => intro _; exact List.nodup_nil
  | cons v S ih => intro h; exact List.nodup_cons.2 ⟨h.1, ih h.2.2⟩
theorem ke_all {es : List (Int × Int)} {k d : Nat} (hl : ∀ u : Nat, ¬ nearG es (u : Int) (u : Int)) (hk : d + 1 ≤ k) : ∀ {S : List Nat}, peels es d S → ∀ {f g : Nat → Int}, prS es (k : Int) S f → prS es (k : Int) S g → ∃ g', KeS es (k : Int) S f g' ∧ agreeS S g' g := by
  intro S
  induction S with
  | nil => intro _ f g _ _; exact ⟨f, .base, fun v hv => by cases hv⟩
  | cons v S ih =>
    intro hp f g hf hg
    obtain ⟨p1, p2, p3⟩ := hp
    obtain ⟨g1, h1, h2⟩ := ih p3 (prS_tail hf) (prS_tail hg)
    obtain ⟨g2, c1, c2, c3⟩ := lift_ke hl (peels_nodup p3) p1 p2 hk hf h1
    have hag : agreeS S g2 g := fun w hw => (c2 w hw).trans (h2 w hw)
    by_cases hgv : g2 v = g v
    · exact ⟨g2, c1, fun w hw => by
        rcases List.mem_cons.1 hw with rfl | hw
        · exact hgv
        · exact hag w hw⟩
    · have hvS : v ∈ v :: S := List.mem_cons_self ..
      have hfree : ∀ u ∈ v :: S, nearG es (u : Int) (v : Int) → g2 u ≠ g v := by
        intro u hu hn
        have := (hg v hvS).2 u hu hn
        rcases List.mem_cons.1 hu with rfl | hu'
        · exact absurd hn (hl _)
        · rw [hag u hu']; exact this
      have e := ke_one c3 hvS hfree
      refine ⟨swapF es (v :: S) g2 v (g v), .step c1 hvS (hg v hvS).1 hgv, fun w hw => ?_⟩
      rw [e]
      by_cases q : w = v
      · subst q; rw [upd_same]
      · rw [upd_other q]; exact hag w ((List.mem_cons.1 hw).resolve_left q)
def preC (es : List (Int × Int)) (b : List Int) : Prop := ∀ i : Nat, i < b.length → freeC es (b.take i) (rdI b (i : Int))
theorem moreC_free {k : Nat} {es : List (Int × Int)} : ∀ (d : Nat) (b : List Int) (l : List (List Int)), preC es b → (∀ x ∈ l, preC es x) → ∀ x ∈ moreC k es d b l, preC es x := by
  intro d
  induction d with
  | zero =>
    intro b l hb h x hx
    simp only [moreC, List.mem_append, List.mem_singleton] at hx
    rcases hx with hx | rfl
    · exact h x hx
    · exact hb
  | succ d ih =>
    intro b l hb h
    unfold moreC
    refine stepsC_inv (p := fun l => ∀ x ∈ l, preC es x) (fun c l h1 h2 => ?_) k 0 l h
    by_cases hf : freeC es b (c : Int)
    · rw [if_pos hf]
      refine ih _ _ (fun i hi => ?_) h2
      by_cases hib : i < b.length
      · rw [List.take_append_of_le_length (by omega), rdI_n hi, List.getElem_append_left hib, ← rdI_n hib]
        exact hb i hib
      · have e : i = b.length := by simp at hi; omega
        subst e
        rw [List.take_left, rdI_n hi, List.getElem_concat_length rfl]
        exact hf
    · rw [if_neg hf]; exact h2
theorem allC_proper {g : Int × List (Int × Int)} {k : Int} {x : List Int} (hk : colCase g k) (hx : x ∈ allC g k) : proper g k x := by
  have hg := hk.1.1
  have hl := allC_rows x hx
  refine ⟨by omega, fun z hz => ?_, fun e he => ?_⟩
  · have := (allC_sorted g k).2 x hx z hz
    have := hk.2
    omega
  · have hp := moreC_free (k := k.toNat) (es := g.2) g.1.toNat [] [] (fun i hi => by cases hi) (by simp) x hx
    have hee := goodG_edges hk.1 e he
    obtain ⟨a, ha⟩ : ∃ a : Nat, e.1 = (a : Int) := ⟨e.1.toNat, by omega⟩
    obtain ⟨b, hb⟩ : ∃ b : Nat, e.2 = (b : Int) := ⟨e.2.toNat, by omega⟩
    have hbl : b < x.length := by omega
    have hlt : (x.take b).length = b := by simp; omega
    have := hp b hbl a (by omega)
    rw [rdI_take (by omega) (by omega), hlt] at this
    rw [ha, hb]
    exact fun q => this ⟨q, .inl (by rw [← ha, ← hb]; exact he)⟩
noncomputable def toL (m : Nat) (f : Nat → Int) : List Int := (List.range m).map f
theorem toL_len (m : Nat) (f : Nat → Int) : (toL m f).length = m := by simp [toL]
theorem toL_rd {m : Nat} {f : Nat → Int} {i : Nat} (hi : i < m) : rdI (toL m f) (i : Int) = f i := by
  rw [rdI_n (by rw [toL_len]; exact hi)]
  simp [toL]
theorem toL_of {m : Nat} {a : List Int} (h : a.length = m) : toL m (fun v : Nat => rdI a (v : Int)) = a := rd_ext (by rw [toL_len, h]) fun i hi => by
  rw [toL_len] at hi
  exact toL_rd hi
theorem toL_agree {m : Nat} {S : List Nat} (hS : ∀ v, v ∈ S ↔ v < m) {f g : Nat → Int} (h : agreeS S f g) : toL m f = toL m g := rd_ext (by rw [toL_len, toL_len]) fun i hi => by
  rw [toL_len] at hi
  rw [toL_rd hi, toL_rd hi]
  exact h i ((hS i).2 hi)
theorem proper_prS {g : Int × List (Int × Int)} {k : Int} {S : List Nat} (hg : goodG g) (hS : ∀ v, v ∈ S ↔ v < g.1.toNat) {a : List Int} (h : proper g k a) : prS g.2 k S (fun v : Nat => rdI a (v : Int)) := by
  intro v hv
  have hvm := (hS v).1 hv
  have hl : a.length = g.1.toNat := by have := h.1; omega
  have := h.2.1 _ (List.getElem_mem (show v < a.length by omega))
  rw [← rdI_n (show v < a.length by omega)] at this
  refine ⟨by show 0 ≤ rdI a (v : Int) ∧ rdI a (v : Int) < k; omega, fun u hu hn => ?_⟩
  rcases hn with hn | hn
  · exact h.2.2 _ hn
  · exact fun q => h.2.2 _ hn q.symm
theorem prS_proper {g : Int × List (Int × Int)} {k : Int} {S : List Nat} (hg : goodG g) (hS : ∀ v, v ∈ S ↔ v < g.1.toNat) {f : Nat → Int} (h : prS g.2 k S f) : proper g k (toL g.1.toNat f) := by
  have hg1 := hg.1
  refine ⟨by rw [toL_len]; omega, fun z hz => ?_, fun e he => ?_⟩
  · obtain ⟨i, hi, rfl⟩ := List.mem_map.1 hz
    have := (h i ((hS i).2 (List.mem_range.1 hi))).1
    omega
  · have hee := goodG_edges hg e he
    obtain ⟨a, ha⟩ : ∃ a : Nat, e.1 = (a : Int) := ⟨e.1.toNat, by omega⟩
    obtain ⟨b, hb⟩ : ∃ b : Nat, e.2 = (b : Int) := ⟨e.2.toNat, by omega⟩
    rw [ha, hb, toL_rd (by omega), toL_rd (by omega)]
    exact (h b ((hS b).2 (by omega))).2 a ((hS a).2 (by omega)) (.inl (by rw [← ha, ← hb]; exact he))
theorem cnt_one {L : List (List Int)} {n : Nat} (hn : 0 < n) (h : ∀ i j : Nat, i < n → j < n → Wk L (i : Int) (j : Int)) : cntN L n = 1 := by
  unfold cntN
  obtain ⟨m, rfl⟩ : ∃ m, n = m + 1 := ⟨n - 1, by omega⟩
  rw [List.range_succ_eq_map, List.filter_cons_of_pos (by simp), List.filter_eq_nil_iff.2 (fun x hx => ?_)]
  · rfl
  · obtain ⟨i, hi, rfl⟩ := List.mem_map.1 hx
    have := List.mem_range.1 hi
    simp only [decide_eq_true_eq]
    exact fun q => q 0 (by omega) (h 0 (i + 1) (by omega) (by omega))
theorem cnt_mono {L L' : List (List Int)} {n : Nat} (h : ∀ i j : Nat, i < n → j < n → Wk L (i : Int) (j : Int) → Wk L' (i : Int) (j : Int)) : cntN L' n ≤ cntN L n := by
  unfold cntN
  rw [← List.countP_eq_length_filter, ← List.countP_eq_length_filter]
  refine List.countP_mono_left fun k hk hp => ?_
  have hkn := List.mem_range.1 hk
  simp only [decide_eq_true_eq] at hp ⊢
  exact fun j hj hw => hp j hj (h j k (by omega) hkn hw)
theorem peelCh {g : Int × List (Int × Int)} {k : Int} {d : Nat} {S : List Nat} (hk : colCase g k) (hl : (allC g k).length ≤ 300) (hS : ∀ v, v ∈ S ↔ v < g.1.toNat) (hp : peels g.2 d S) (hd : (d : Int) + 2 ≤ k) {a b : List Int} (ha : a ∈ allC g k) (hb : b ∈ allC g k) :
    Wk (nbL (allC g k).length (stepsL isCh (allC g k))) (((allC g k).idxOf a : Nat) : Int) (((allC g k).idxOf b : Nat) : Int) := by
  have hg := hk.1
  have hloop : ∀ u : Nat, ¬ nearG g.2 (u : Int) (u : Int) := fun u h => by
    rcases h with h | h <;> · have := goodG_edges hg _ h; simp at this
  have pa := allC_proper hk ha
  have pb := allC_proper hk hb
  have hkk : ((k.toNat : Nat) : Int) = k := by have := hk.2; omega
  have fa := proper_prS hg hS pa
  have fb := proper_prS hg hS pb
  rw [← hkk] at fa fb
  obtain ⟨g', h1, h2⟩ := ch_all hloop (show d + 2 ≤ k.toNat by omega) hp fa fb
  have hpsym : ∀ x ∈ allC g k, ∀ y ∈ allC g k, isCh x y = true → isCh y x = true := fun x hx y hy h => isCh_symm (by rw [allC_rows x hx, allC_rows y hy]) h
  have key : ∀ {q : Nat → Int}, ChS g.2 ((k.toNat : Nat) : Int) S (fun v : Nat => rdI a (v : Int)) q → prS g.2 ((k.toNat : Nat) : Int) S q ∧ Wk (nbL (allC g k).length (stepsL isCh (allC g k))) (((allC g k).idxOf a : Nat) : Int) (((allC g k).idxOf (toL g.1.toNat q) : Nat) : Int) := by
    intro q hq
    induction hq with
    | base => exact ⟨fa, by rw [toL_of (allC_rows a ha)]; exact .base⟩
    | @step q v c _ hv hpr ih =>
      obtain ⟨i1, i2⟩ := ih
      refine ⟨hpr, ?_⟩
      have m1 := mem_allC hk hl (prS_proper hg hS (by rw [← hkk]; exact i1))
      have m2 := mem_allC hk hl (prS_proper hg hS (by rw [← hkk]; exact hpr))
      have hvm := (hS v).1 hv
      by_cases e : q v = c
      · have : upd q v c = q := by
          funext u
          unfold upd
          split
          · rename_i h; rw [h, e]
          · rfl
        rw [this]
        exact i2
      · refine .step i2 (step_near hpsym m1 m2 (fun q' => e ?_) (decide_eq_true ?_))
        · have h0 : rdI (toL g.1.toNat q) (v : Int) = rdI (toL g.1.toNat (upd q v c)) (v : Int) := by rw [q']
          rw [toL_rd hvm, toL_rd hvm, upd_same] at h0
          exact h0
        · have hp1 : (apartL (toL g.1.toNat q) (toL g.1.toNat (upd q v c))).Perm [(v : Int)] := (List.perm_ext_iff_of_nodup (apart_nodup ..) (by simp)).2 fun z => by
            rw [mem_apart, List.mem_singleton, toL_len]
            constructor
            · rintro ⟨i, h1, h3, rfl⟩
              rw [toL_rd h1, toL_rd h1] at h3
              by_cases q1 : i = v
              · rw [q1]
              · rw [upd_other q1] at h3; exact absurd rfl h3
            · rintro rfl
              exact ⟨v, hvm, by rw [toL_rd hvm, toL_rd hvm, upd_same]; exact e, rfl⟩
          have := hp1.length_eq
          simpa using this
  have := (key h1).2
  rw [toL_agree hS h2, toL_of (allC_rows b hb)] at this
  exact this
theorem rch_trans {es : List (Int × Int)} {A : Int → Prop} {x y z : Int} (h1 : Rch es A x y) (h2 : Rch es A y z) : Rch es A x z := by
  induction h2 with
  | base => exact h1
  | step _ hn ha ih => exact .step ih hn ha
theorem rch_symm {es : List (Int × Int)} {A : Int → Prop} {x y : Int} (hx : A x) (h : Rch es A x y) : Rch es A y x := by
  have key : A y ∧ Rch es A y x := by
    induction h with
    | base => exact ⟨hx, .base⟩
    | step _ hn ha ih => exact ⟨ha, rch_trans (.step .base (nearG_symm.1 hn) ih.1) ih.2⟩
  exact key.2
theorem chain_mem {m : Nat} {es : List (Int × Int)} {cs : List Int} {x c z : Int} (hx : InN m x) : z ∈ chainR m es cs x c ↔ Rch es (fun y => InN m y ∧ (rdI cs y = rdI cs x ∨ rdI cs y = c)) x z := by
  have hxs : x ∈ someL m cs (rdI cs x) c := mem_someL.2 ⟨hx, .inl rfl⟩
  refine ((reachS_spec (es := es) hxs).2 z).trans ⟨fun h => Rch_congr (fun _ _ _ h => mem_someL.1 h) h, fun h => Rch_congr (fun _ _ _ h => mem_someL.2 h) h⟩
theorem swap_list {m : Nat} {es : List (Int × Int)} {S : List Nat} (hS : ∀ v, v ∈ S ↔ v < m) {g : Nat → Int} {x : Nat} {c : Int} (hx : x ∈ S) : toL m (swapF es S g x c) = kempeR m es (toL m g) (x : Int) c := by
  have hxm := (hS x).1 hx
  refine rd_ext (by rw [toL_len, kempeR_len, toL_len]) fun i hi => ?_
  rw [toL_len] at hi
  rw [toL_rd hi, rd_kempe (toL_len m g) (in_nat hxm) (in_nat hi)]
  have hk : kset es S g x c i ↔ (i : Int) ∈ chainR m es (toL m g) (x : Int) c := by
    rw [chain_mem (in_nat hxm), toL_rd hxm]
    unfold kset
    constructor
    · refine Rch_congr fun y z _ hz => ?_
      obtain ⟨u, hu, rfl, hc⟩ := hz
      have := (hS u).1 hu
      exact ⟨in_nat this, by rw [toL_rd this]; exact hc⟩
    · refine Rch_congr fun y z _ hz => ?_
      obtain ⟨u, hu, rfl⟩ := nat_of hz.1
      exact ⟨u, (hS u).2 hu, rfl, by rw [← toL_rd (f := g) hu]; exact hz.2⟩
  unfold swapF
  by_cases q : kset es S g x c i
  · rw [if_pos q, if_pos (hk.1 q), toL_rd hi, toL_rd hxm]
  · rw [if_neg q, if_neg (fun h => q (hk.2 h)), toL_rd hi]
theorem kemP_of {m : Nat} {es : List (Int × Int)} {a : List Int} {x c : Int} (ha : a.length = m) (hx : InN m x) (hne : rdI a x ≠ c) : kemP m es a (kempeR m es a x c) = true := by
  have hrd := fun (y : Int) (hy : InN m y) => rd_kempe (es := es) (c := c) ha hx hy
  have hkl := kempeR_len m es a x c
  unfold kemP
  cases hl : apartL a (kempeR m es a x c) with
  | nil =>
    have := apart_nil (by omega) hl
    have h2 := hrd x hx
    rw [if_pos (x_in_chain hx), if_pos rfl, ← this] at h2
    exact absurd h2 hne
  | cons x0 l =>
    obtain ⟨h1, h2⟩ := apart_mem (a := a) (b := kempeR m es a x c) (x := x0) (by rw [hl]; exact List.mem_cons_self ..)
    rw [ha] at h1
    simp only []
    have hx0 : x0 ∈ chainR m es a x c := by
      refine Classical.byContradiction fun q => h2 ?_
      rw [hrd x0 h1, if_neg q]
    have hc0 := (chainR_mem hx hx0).2
    have hb0 : rdI (kempeR m es a x c) x0 = if rdI a x0 = rdI a x then c else rdI a x := by rw [hrd x0 h1, if_pos hx0]
    -- the same two colours, the same chain
    have pair : ∀ y : Int, (rdI a y = rdI a x0 ∨ rdI a y = rdI (kempeR m es a x c) x0) ↔ (rdI a y = rdI a x ∨ rdI a y = c) := by
      intro y
      rw [hb0]
      by_cases q : rdI a x0 = rdI a x
      · rw [if_pos q, q]
      · rw [if_neg q, hc0.resolve_left q]
        exact Or.comm
    have same : ∀ z, z ∈ chainR m es a x0 (rdI (kempeR m es a x c) x0) ↔ z ∈ chainR m es a x c := by
      intro z
      rw [chain_mem h1, chain_mem hx]
      have hr : Rch es (fun y => InN m y ∧ (rdI a y = rdI a x ∨ rdI a y = c)) x x0 := (chain_mem hx).1 hx0
      constructor
      · intro h
        exact rch_trans hr (Rch_congr (fun y z _ hz => ⟨hz.1, (pair z).1 hz.2⟩) h)
      · intro h
        refine Rch_congr (fun y z _ hz => ⟨hz.1, (pair z).2 hz.2⟩) (rch_trans (rch_symm ⟨hx, .inl rfl⟩ hr) h)
    refine decide_eq_true (rd_ext (by rw [kempeR_len, hkl]) fun i hi => ?_)
    rw [kempeR_len, ha] at hi
    rw [rd_kempe ha h1 (in_nat hi), hrd _ (in_nat hi)]
    by_cases q : (i : Int) ∈ chainR m es a x c
    · rw [if_pos q, if_pos ((same _).2 q), hb0]
      have hci := (chainR_mem hx q).2
      by_cases e0 : rdI a x0 = rdI a x
      · rw [if_pos e0, e0]
      · rw [if_neg e0]
        have e1 := hc0.resolve_left e0
        by_cases e2 : rdI a (i : Int) = rdI a x
        · rw [if_pos e2, if_neg (fun q => e0 (q.symm.trans e2)), e1]
        · rw [if_neg e2, if_pos (by rw [e1]; exact hci.resolve_left e2)]
    · rw [if_neg q, if_neg (fun h => q ((same _).1 h))]
theorem peelKe {g : Int × List (Int × Int)} {k : Int} {d : Nat} {S : List Nat} (hk : colCase g k) (hl : (allC g k).length ≤ 300) (hS : ∀ v, v ∈ S ↔ v < g.1.toNat) (hp : peels g.2 d S) (hd : (d : Int) + 1 ≤ k) {a b : List Int} (ha : a ∈ allC g k) (hb : b ∈ allC g k) :
    Wk (nbL (allC g k).length (stepsL (kemP g.1.toNat g.2) (allC g k))) (((allC g k).idxOf a : Nat) : Int) (((allC g k).idxOf b : Nat) : Int) := by
  have hg := hk.1
  have hloop : ∀ u : Nat, ¬ nearG g.2 (u : Int) (u : Int) := fun u h => by
    rcases h with h | h <;> · have := goodG_edges hg _ h; simp at this
  have pa := allC_proper hk ha
  have pb := allC_proper hk hb
  have hkk : ((k.toNat : Nat) : Int) = k := by have := hk.2; omega
  have fa := proper_prS hg hS pa
  have fb := proper_prS hg hS pb
  rw [← hkk] at fa fb
  obtain ⟨g', h1, h2⟩ := ke_all hloop (show d + 1 ≤ k.toNat by omega) hp fa fb
  have hpsym : ∀ x ∈ allC g k, ∀ y ∈ allC g k, kemP g.1.toNat g.2 x y = true → kemP g.1.toNat g.2 y x = true := fun x hx y hy h => by rw [kemP_symm (allC_rows y hy) (allC_rows x hx)]; exact h
  have key : ∀ {q : Nat → Int}, KeS g.2 ((k.toNat : Nat) : Int) S (fun v : Nat => rdI a (v : Int)) q → prS g.2 ((k.toNat : Nat) : Int) S q ∧ Wk (nbL (allC g k).length (stepsL (kemP g.1.toNat g.2) (allC g k))) (((allC g k).idxOf a : Nat) : Int) (((allC g k).idxOf (toL g.1.toNat q) : Nat) : Int) := by
    intro q hq
    induction hq with
    | base => exact ⟨fa, by rw [toL_of (allC_rows a ha)]; exact .base⟩
    | @step q x c _ hx hc hne ih =>
      obtain ⟨i1, i2⟩ := ih
      have hpr := ke_pr i1 hx hc
      refine ⟨hpr, ?_⟩
      have hxm := (hS x).1 hx
      have m1 := mem_allC hk hl (prS_proper hg hS (by rw [← hkk]; exact i1))
      have m2 := mem_allC hk hl (prS_proper hg hS (by rw [← hkk]; exact hpr))
      have hrx : rdI (toL g.1.toNat q) (x : Int) = q x := toL_rd hxm
      rw [swap_list hS hx] at m2 ⊢
      refine .step i2 (step_near hpsym m1 m2 (fun e => ?_) (kemP_of (toL_len ..) (in_nat hxm) (by rw [hrx]; exact hne)))
      have h0 : rdI (toL g.1.toNat q) (x : Int) = rdI (kempeR g.1.toNat g.2 (toL g.1.toNat q) (x : Int) c) (x : Int) := by rw [← e]
      rw [rd_kempe (toL_len ..) (in_nat hxm) (in_nat hxm), if_pos (x_in_chain (in_nat hxm)), if_pos rfl, hrx] at h0
      exact hne h0
  have := (key h1).2
  rw [toL_agree hS h2, toL_of (allC_rows b hb)] at this
  exact this
theorem ch_kem {g : Int × List (Int × Int)} {k : Int} (hk : colCase g k) {a b : List Int} (ha : a ∈ allC g k) (hb : b ∈ allC g k) (h : isCh a b = true) : kemP g.1.toNat g.2 a b = true := by
  have hg := hk.1
  have pa := allC_proper hk ha
  have pb := allC_proper hk hb
  have la := allC_rows a ha
  have lb := allC_rows b hb
  have hS : ∀ v, v ∈ List.range g.1.toNat ↔ v < g.1.toNat := fun v => List.mem_range
  have fa := proper_prS hg hS pa
  have fb := proper_prS hg hS pb
  obtain ⟨x, hx⟩ := List.length_eq_one_iff.1 (of_decide_eq_true h)
  obtain ⟨v, hv, hne, rfl⟩ := mem_apart.1 (show x ∈ apartL a b by rw [hx]; exact List.mem_singleton.2 rfl)
  have hvm : v < g.1.toNat := by omega
  have other : ∀ u : Nat, u < g.1.toNat → u ≠ v → rdI a (u : Int) = rdI b (u : Int) := fun u hu huv => by
    refine Classical.byContradiction fun q => ?_
    have : (u : Int) ∈ apartL a b := mem_apart.2 ⟨u, by omega, q, rfl⟩
    rw [hx, List.mem_singleton] at this
    omega
  have hone := ke_one (c := rdI b (v : Int)) fa ((hS v).2 hvm) fun u hu hn => by
    have hum := (hS u).1 hu
    by_cases huv : u = v
    · subst huv
      rcases hn with h | h <;> · have := goodG_edges hg _ h; simp at this
    · show rdI a (u : Int) ≠ _
      rw [other u hum huv]
      exact (fb v ((hS v).2 hvm)).2 u hu hn
  have hsw := swap_list (es := g.2) (c := rdI b (v : Int)) (g := fun u : Nat => rdI a (u : Int)) hS ((hS v).2 hvm)
  rw [hone, toL_of la] at hsw
  have hub : toL g.1.toNat (upd (fun u : Nat => rdI a (u : Int)) v (rdI b (v : Int))) = b := rd_ext (by rw [toL_len, lb]) fun i hi => by
    rw [toL_len] at hi
    rw [toL_rd hi]
    by_cases e : i = v
    · subst e; rw [upd_same]
    · rw [upd_other e]; exact other i hi e
  rw [hub] at hsw
  have := kemP_of (es := g.2) (c := rdI b (v : Int)) la (in_nat hvm) hne
  rw [← hsw] at this
  exact this
theorem scS_snd {m : Nat} {es : List (Int × Int)} {out : List Int} : ∀ (xs : List Nat) (s : Int × Int), (s.1 < 0 ∨ s.2 = (dgP m es out s.1 : Int)) → ((xs.foldl (scS m es out) s).1 < 0 ∨ (xs.foldl (scS m es out) s).2 = (dgP m es out (xs.foldl (scS m es out) s).1 : Int)) := by
  intro xs
  induction xs with
  | nil => intro s h; exact h
  | cons x xs ih =>
    intro s h
    rw [List.foldl_cons]
    refine ih _ ?_
    unfold scS
    split
    · exact .inr rfl
    · exact h
theorem peel_prop {N : Nat} {m : Nat} {es : List (Int × Int)} (hm : m ≤ 8) (hg : goodG ((m : Int), es)) (hx : es.length ≤ 1048576) (hN : 1048577 ≤ N) : ∀ (d : Nat) (out : List Int) (most : Int) (K1 : Nat), (cand m out).length = d → out.length + d = m → most ≤ 8 → d < K1 →
    ∃ (tl : List Nat) (D : Int), spec_l5Peeling_l0 N (fun most o => some ((o, most, ()), ())) K1 most (m : Int) es out = some ((out ++ tl.map (fun c : Nat => (c : Int)), D, ()), ()) ∧ most ≤ D ∧ D ≤ 8 ∧ (0 < d → 0 ≤ D) ∧ peels es D.toNat tl ∧ ∀ v, v ∈ tl ↔ v ∈ cand m out := by
  intro d
  induction d with
  | zero =>
    intro out most K1 hc ho hmo hK1
    obtain ⟨k1, rfl⟩ := succ_of hK1
    have hnil := List.length_eq_zero_iff.1 hc
    refine ⟨[], most, ?_, Int.le_refl _, hmo, fun h => absurd h (Nat.lt_irrefl 0), trivial, fun v => by rw [hnil]⟩
    simp only [spec_l5Peeling_l0]
    rw [ilt_f (by rw [tLen_n]; omega), br_f]
    simp
  | succ d ih =>
    intro out most K1 hc ho hmo hK1
    obtain ⟨k1, rfl⟩ := succ_of hK1
    have hne : cand m out ≠ [] := fun h => by rw [h] at hc; simp at hc
    obtain ⟨q1, q2⟩ := scan_rel (out := out) hm hg (cand m out) (-1, 0) (-1, 8) (fun x h => (mem_cand.1 h).1) (.inl ⟨rfl, rfl⟩) hne
    obtain ⟨b, hbc, hbe⟩ : ∃ b ∈ cand m out, ((cand m out).foldl (scS m es out) (-1, 0)).1 = (b : Int) := by
      rcases q2 with h | ⟨_, h⟩
      · exact h
      · exact absurd h (by simp)
    have hsn := (scS_snd (m := m) (es := es) (out := out) (cand m out) (-1, 0) (.inl (by simp))).resolve_left (by rw [hbe]; omega)
    rw [hbe] at hsn
    obtain ⟨hbm, hbo⟩ := mem_cand.1 hbc
    have hdg := dgP_lt hg (out := out) hbm
    have hcl := cand_less hbc
    have hmo2 : (if ((cand m out).foldl (scS m es out) (-1, 0)).2 < most then most else ((cand m out).foldl (scS m es out) (-1, 0)).2) ≤ 8 := by
      split <;> omega
    obtain ⟨tl, D, r1, r2, r3, r4, r5, r6⟩ := ih (out ++ [(b : Int)]) (if ((cand m out).foldl (scS m es out) (-1, 0)).2 < most then most else ((cand m out).foldl (scS m es out) (-1, 0)).2) k1 (by omega) (by simp; omega) hmo2 (by omega)
    have hmD : most ≤ D ∧ (dgP m es out (b : Int) : Int) ≤ D := by
      rw [hsn] at r2
      split at r2 <;> omega
    have hbt : b ∉ tl := fun h => by
      have := (mem_cand.1 ((r6 b).1 h)).2
      simp at this
    refine ⟨b :: tl, D, ?_, hmD.1, r3, fun _ => by omega, ⟨hbt, ?_, r5⟩, fun v => ?_⟩
    · simp only [spec_l5Peeling_l0]
      rw [ilt_t (by rw [tLen_n]; omega), br_t, spec_scan_eq _ hm hx (by omega) hN, room_ok (by simp; omega), chk_t, l1Most_eq]
      simp only [bind_some']
      rw [hbe]
      refine Eq.trans r1 ?_
      simp
    · have hnd : ((nbIn es tl b).map (fun u : Nat => (u : Int))).Nodup := List.Pairwise.map (R := fun (i j : Nat) => i ≠ j) _ (fun i j h e => h (by omega)) ((peels_nodup r5).filter _)
      have hin : ∀ x ∈ (nbIn es tl b).map (fun u : Nat => (u : Int)), x ∈ (nbr m es (b : Int)).filter fun y => !decide (y ∈ out) := fun x hx => by
        obtain ⟨u, hu, rfl⟩ := List.mem_map.1 hx
        obtain ⟨hu1, hu2⟩ := mem_nbIn.1 hu
        obtain ⟨hu3, hu4⟩ := mem_cand.1 ((r6 u).1 hu1)
        rw [List.mem_filter, mem_nbr]
        refine ⟨⟨u, hu3, nearG_symm.1 hu2, rfl⟩, ?_⟩
        rw [decide_eq_false (fun q => hu4 (List.mem_append_left _ q))]
        rfl
      have := nodup_le hnd hin
      rw [List.length_map] at this
      unfold dgP at hmD
      omega
    · rw [List.mem_cons, r6 v, mem_cand, mem_cand, List.mem_append, List.mem_singleton]
      constructor
      · rintro (rfl | ⟨h1, h2⟩)
        · exact ⟨hbm, hbo⟩
        · exact ⟨h1, fun q => h2 (.inl q)⟩
      · rintro ⟨h1, h2⟩
        by_cases e : v = b
        · exact .inl e
        · exact .inr ⟨h1, fun q => q.elim h2 fun q => e (by omega)⟩
theorem peelOf_prop {N : Nat} {g : Int × List (Int × Int)} (hg : goodG g) (hx : g.2.length ≤ 1048576) (hN : 1048577 ≤ N) : ∃ (o : List Int) (D : Int) (tl : List Nat), o.length ≤ 8 ∧ spec_PeelingOf N g = some ((o, D, true, ()), ()) ∧ impl_PeelingOf N g = some ((o, D, true, ()), ()) ∧ -1 ≤ D ∧ D ≤ 8 ∧ (0 < g.1.toNat → 0 ≤ D) ∧ peels g.2 D.toNat tl ∧ ∀ v, v ∈ tl ↔ v < g.1.toNat := by
  obtain ⟨r, r1, r2, r3⟩ := peel_eq (N := N) hx hN
  obtain ⟨m0, es⟩ := g
  have hm := hg.1
  simp only at hx hm
  obtain ⟨m, rfl⟩ : ∃ m : Nat, m0 = m := ⟨m0.toNat, by omega⟩
  have hc : (cand m []).length = m := by
    unfold cand
    rw [List.filter_eq_self.2 (fun c _ => decide_eq_true (by simp))]
    simp
  obtain ⟨tl, D, q1, q2, q3, q4, q5, q6⟩ := peel_prop (N := N) (by omega) hg hx hN m [] (-1) N hc (by simp) (by omega) (by omega)
  have hs : spec_PeelingOf N ((m : Int), es) = some ((tl.map (fun c : Nat => (c : Int)), D, true, ()), ()) := by
    unfold spec_PeelingOf spec_l5Peeling
    simp only [l2Good_eq (g := ((m : Int), es)) hx hN, bind_some']
    rw [decide_eq_true hg, Bool.not_true, br_f, q1]
    rfl
  rw [hs] at r2
  injection r2 with r2
  injection r2 with r2 _
  injection r2 with e1 r2
  injection r2 with e2 r2
  injection r2 with e3 _
  refine ⟨r.1, D, tl, r1, by rw [hs, ← e1], by rw [r3, ← e2, ← e3], q2, q3, by simpa using q4, q5, fun v => ?_⟩
  rw [q6 v, mem_cand]
  simp
/-! ### What is a space -/
theorem isState_eq {N : Nat} {s : List Int} (hl : s.length ≤ 24) (hb : ∀ z ∈ s, -99 ≤ z ∧ z ≤ 99) (hN : 1048577 ≤ N) : impl_isState N s = some ((true, ()), ()) := by
  unfold impl_isState
  rw [tLen_n, ile_t (by omega), br_t, ContainsFunc_LI_int_eq (g := fun z => !decide (-99 ≤ z ∧ z ≤ 99)) (fun z _ => ?_) (by omega) (by omega), bind_some']
  · have : (s.any fun z => !decide (-99 ≤ z ∧ z ≤ 99)) = false := by
      rw [List.any_eq_false]
      intro z hz
      rw [decide_eq_true (hb z hz)]
      simp
    rw [this]
    rfl
  · unfold impl_isState_c1
    rw [between_eq, bind_some', bind_some']
theorem okSt_pair {n : Nat} {st : List (Int × Int)} (h : okSt n st) : ∀ i : Nat, i < st.length → pairAt (n : Int) st i := by
  intro i hi
  have h2 := h.2 _ (List.getElem_mem hi)
  rw [← rdP_n hi] at h2
  refine ⟨⟨h2.1, h2.2.1, h2.2.2⟩, fun h0 => ?_⟩
  have := (List.pairwise_iff_getElem.1 h.1) (i - 1) i (by omega) hi (by omega)
  rw [rdP_n hi, rdP_n (show i - 1 < st.length by omega)]
  exact this
theorem isPairs_ok {N n : Nat} {es : List (Int × Int)} (hx : es.length ≤ 1048576) (h : okSt n es) (hN : 1048577 ≤ N) : impl_isPairs N es (n : Int) = some ((true, ()), ()) := by
  have hp := okSt_pair h
  unfold impl_isPairs
  have go : ∀ (d n' K : Nat), n' + d = es.length → d < K → impl_isPairs_l0 N (fun x => some ((x, ()), ())) (fun (_ : Unit) => some ((true, ()), ())) K es (n : Int) es (es.length : Int) (n' : Int) = some ((true, ()), ()) := by
    intro d
    induction d with
    | zero =>
      intro n' K hd hK
      obtain ⟨K, rfl⟩ := succ_of hK
      simp only [impl_isPairs_l0, ilt_nf (show ¬ n' < es.length by omega), br_f]
    | succ d ih =>
      intro n' K hd hK
      obtain ⟨K, rfl⟩ := succ_of hK
      have hn : n' < es.length := by omega
      simp only [impl_isPairs_l0, ilt_n hn, inb_n hn, br_t, chk_t]
      obtain ⟨⟨p1, p2, p3⟩, p4⟩ := hp n' hn
      rw [ilt_f (by omega), br_f, ile_f (by omega), br_f, ile_f (by omega), br_f, wrap_succ (by omega)]
      by_cases h0 : 0 < n'
      · rw [ilt_0 h0, br_t, wrap_pred (by omega) h0, inb_n (by omega), chk_t]
        obtain ⟨r, r1, r2, _⟩ := comparePairs_eq hN (rdP es ((n' - 1 : Nat) : Int)) ((rdP es n').1, (rdP es n').2)
        have := r2.2 (p4 h0)
        rw [r1]
        simp only [bind_some']
        rw [ile_f (by omega), br_f]
        exact ih (n' + 1) K (by omega) (by omega)
      · rw [ilt_0n h0, br_f]
        exact ih (n' + 1) K (by omega) (by omega)
  rw [tLen_n]
  exact go es.length 0 N (by omega) (by omega)
theorem isSpace_ok {N : Nat} {xs : List (List Int)} {st : List (Int × Int)} (h1 : xs.length ≤ 300) (h2 : st.length ≤ 6000) (hs : ∀ x ∈ xs, x.length ≤ 24 ∧ ∀ z ∈ x, -99 ≤ z ∧ z ≤ 99) (hl : lexSorted xs) (h : okSt xs.length st) (hN : 1048577 ≤ N) : impl_IsSpace N (xs, st) = some ((true, ()), ()) := by
  unfold impl_IsSpace
  simp only []
  rw [tLen_n, tLen_n, ilt_f (by omega), br_f, ilt_f (by omega), br_f]
  have go : ∀ (d n K : Nat), n + d = xs.length → d < K → impl_IsSpace_l0 N (fun x1 => some ((x1, ()), ())) (fun o o1 => ((impl_isPairs N o1 (tLen o)).bind fun r => some ((r.1.1, ()), ()))) K xs (xs.length : Int) (n : Int) xs st = some ((true, ()), ()) := by
    intro d
    induction d with
    | zero =>
      intro n K hd hK
      obtain ⟨K, rfl⟩ := succ_of hK
      simp only [impl_IsSpace_l0, ilt_nf (show ¬ n < xs.length by omega), br_f]
      rw [tLen_n, isPairs_ok (by omega) h hN, bind_some']
    | succ d ih =>
      intro n K hd hK
      obtain ⟨K, rfl⟩ := succ_of hK
      have hn : n < xs.length := by omega
      obtain ⟨a1, a2⟩ := hs _ (List.getElem_mem hn)
      simp only [impl_IsSpace_l0, ilt_n hn, inb_n hn, br_t, chk_t]
      rw [rdL_n hn, isState_eq a1 a2 hN, bind_some']
      simp only [Bool.not_true, br_f]
      rw [wrap_succ (by omega)]
      by_cases h0 : 0 < n
      · have hn1 : n - 1 < xs.length := by omega
        obtain ⟨b1, b2⟩ := hs _ (List.getElem_mem hn1)
        have hlt := (List.pairwise_iff_getElem.1 hl) (n - 1) n hn1 hn (by omega)
        rw [ilt_0 h0, br_t, wrap_pred (by omega) h0, inb_n hn1, chk_t, rdL_n hn1, Compare_lex (by omega) (by omega) hN, bind_some']
        simp only []
        rw [ile_f (by omega), br_f]
        exact ih (n + 1) K (by omega) (by omega)
      · rw [ilt_0n h0, br_f]
        exact ih (n + 1) K (by omega) (by omega)
  exact go xs.length 0 N (by omega) (by omega)
theorem partsOf_cnt {N : Nat} {xs : List (List Int)} {st : List (Int × Int)} (h1 : xs.length ≤ 300) (h2 : st.length ≤ 6000) (hs : ∀ x ∈ xs, x.length ≤ 24 ∧ ∀ z ∈ x, -99 ≤ z ∧ z ≤ 99) (hl : lexSorted xs) (h : okSt xs.length st) (hN : 1048577 ≤ N) :
    ∃ b : List (List Int), impl_PartsOf N (xs, st) = some ((b, true, ()), ()) ∧ b.length = cntN (nbL xs.length st) xs.length := by
  have hok := nbL_ok (n := xs.length) (by omega) h
  have hlen := hok.1
  have h0 : ∀ y : Nat, y < xs.length → (rdB (List.replicate xs.length false) (y : Int) = true ↔ seenP (nbL xs.length st) 0 (y : Int)) := fun y hy => by
    constructor
    · intro q
      unfold rdB at q
      simp [List.getElem?_replicate, hy] at q
    · rintro ⟨j, j1, _⟩
      omega
  obtain ⟨b, b1, b2⟩ := implParts (N := N) hok (by omega) hN xs.length 0 N [] (List.replicate xs.length false) (by omega) (by omega) (by simp [cntN]) (by simp) h0
  have hg : (ile 0 (tLen (nbL xs.length st)) && ile (tLen (nbL xs.length st)) (tLen (nbL xs.length st)) && fits (tLen (nbL xs.length st))) = true := by
    rw [tLen_n, hlen, ile_t (by omega), ile_t (Int.le_refl _), fits_ok (by omega)]
    rfl
  have hp : impl_parts N (nbL xs.length st) (-1) = some ((b, ()), ()) := by
    unfold impl_parts
    rw [hg, chk_t, ile_f (by decide), br_f, tLen_n, hlen, tRep_n]
    exact b1
  refine ⟨b, ?_, b2⟩
  unfold impl_PartsOf
  simp only []
  rw [isSpace_ok h1 h2 hs hl h hN, bind_some']
  simp only [Bool.not_true, br_f]
  rw [sroads_eq (by omega) (by omega) h hN, bind_some']
  simp only []
  rw [hp, bind_some']
/-! ### The law of the spaces of colourings -/
theorem vTable_l0_eq {R : Type} (N : Nat) (k0 : Bool → Option R) (k1 : Unit → Option R) (a b : List (List Int)) (hx : a.length ≤ 1099511627776) (hxs : ∀ x ∈ a, x.length ≤ 1048576) (hN : 1048577 ≤ N) (hl : a.length = b.length) : ∀ (d n : Nat) (K : Nat), n + d = a.length → d < K →
    laws_vTable_l0 N k0 k1 K a b n = if a.drop n = b.drop n then k1 () else k0 false := by
  intro d
  induction d with
  | zero =>
    intro n K hd hK
    obtain ⟨k, rfl⟩ := succ_of hK
    have hn : ¬ n < a.length := by omega
    simp only [laws_vTable_l0, ilt_lenf hn, br_f]
    rw [if_pos]
    rw [List.drop_of_length_le (by omega), List.drop_of_length_le (by omega)]
  | succ d ih =>
    intro n K hd hK
    obtain ⟨k, rfl⟩ := succ_of hK
    have hn : n < a.length := by omega
    have hnb : n < b.length := by omega
    simp only [laws_vTable_l0, ilt_len hn, inb_n hn, inb_n hnb, br_t, chk_t]
    have ha := hxs _ (List.getElem_mem hn)
    rw [wrap_succ (by omega), rdL_n hn, rdL_n hnb, vInts_eq (by omega) (by omega), bind_some', ih (n + 1) k (by omega) (by omega), drop_cons hn, drop_cons hnb, br_ite]
    by_cases he : a[n] = b[n]
    · rw [he, if_neg (by simp)]
      simp only [List.cons.injEq, true_and]
    · rw [if_pos (by simp [he]), if_neg]
      intro h
      injection h with h _
      exact he h
theorem vTable_eq {N : Nat} {a b : List (List Int)} (hx : a.length ≤ 1048576) (hxs : ∀ x ∈ a, x.length ≤ 1048576) (hN : 1048577 ≤ N) : laws_vTable N a b = some ((decide (a = b), ()), ()) := by
  unfold laws_vTable
  simp only [tLen_n]
  by_cases hl : a.length = b.length
  · rw [ine_f (by omega), br_f]
    have := vTable_l0_eq N (fun x => some ((x, ()), ())) (fun _ => some ((true, ()), ())) a b (by omega) hxs hN hl a.length 0 N (by omega) (by omega)
    simp only [Int.natCast_zero, List.drop_zero] at this
    rw [this]
    by_cases h : a = b <;> simp [h]
  · rw [ine_t (by omega), br_t]
    have : a ≠ b := fun h => hl (by rw [h])
    simp [this]
theorem vPairs_self {N : Nat} {a : List (Int × Int)} (hx : a.length ≤ 1048576) (hN : 1048577 ≤ N) : laws_vPairs N a a = some ((true, ()), ()) := by
  unfold laws_vPairs
  rw [ine_f rfl, br_f]
  have go : ∀ (d n K : Nat), n + d = a.length → d < K → laws_vPairs_l0 N (fun x => some ((x, ()), ())) (fun (_ : Unit) => some ((true, ()), ())) K a a (n : Int) = some ((true, ()), ()) := by
    intro d
    induction d with
    | zero =>
      intro n K hd hK
      obtain ⟨K, rfl⟩ := succ_of hK
      simp only [laws_vPairs_l0, ilt_lenf (show ¬ n < a.length by omega), br_f]
    | succ d ih =>
      intro n K hd hK
      obtain ⟨K, rfl⟩ := succ_of hK
      have hn : n < a.length := by omega
      simp only [laws_vPairs_l0, ilt_len hn, br_t, inb_n hn, chk_t]
      rw [ieq_t rfl, ieq_t rfl, wrap_succ (by omega)]
      simp only [Bool.and_self, Bool.not_true, br_f]
      exact ih (n + 1) K (by omega) (by omega)
  exact go a.length 0 N (by omega) (by omega)
theorem vSpace_self {N : Nat} {x : List (List Int) × List (Int × Int)} (h : okSp x) (hN : 1048577 ≤ N) : laws_vSpace N x x = some ((true, ()), ()) := by
  obtain ⟨h1, h2, h3, h4⟩ := h
  unfold laws_vSpace
  rw [vTable_eq h1 h2 hN, bind_some', decide_eq_true rfl, br_t, vPairs_self h3 hN, bind_some']
theorem wk_idx {L : List (List Int)} {xs : List (List Int)} (hnd : xs.Nodup) (h : ∀ a ∈ xs, ∀ b ∈ xs, Wk L ((xs.idxOf a : Nat) : Int) ((xs.idxOf b : Nat) : Int)) (i j : Nat) (hi : i < xs.length) (hj : j < xs.length) : Wk L (i : Int) (j : Int) := by
  have := h _ (List.getElem_mem hi) _ (List.getElem_mem hj)
  rwa [List.Nodup.idxOf_getElem hnd, List.Nodup.idxOf_getElem hnd] at this
theorem allC_one {g : Int × List (Int × Int)} {k : Int} (h0 : g.1.toNat = 0) : (allC g k).length = 1 := by
  unfold allC
  rw [h0]
  rfl
theorem wk_mono {xs : List (List Int)} {p q : List Int → List Int → Bool} (hn : xs.length ≤ 1048576) (h : ∀ x ∈ xs, ∀ y ∈ xs, p x y = true → q x y = true) {x y : Int} (hx : InN xs.length x) (hw : Wk (nbL xs.length (stepsL p xs)) x y) : Wk (nbL xs.length (stepsL q xs)) x y := by
  have hl := nbL_ok (n := xs.length) hn (stepsL_ok (p := p) (xs := xs))
  have mono : ∀ e, e ∈ stepsL p xs → e ∈ stepsL q xs := fun e he => by
    obtain ⟨i, j, h1, h2, h3, h4⟩ := mem_stepsL.1 he
    have hi : i < xs.length := by omega
    refine mem_stepsL.2 ⟨i, j, h1, h2, h3, h _ ?_ _ ?_ h4⟩
    · rw [rdL_n hi]; exact List.getElem_mem hi
    · rw [rdL_n h3]; exact List.getElem_mem h3
  induction hw with
  | base => exact .base
  | step h1 hz ih =>
    have hy := Wk_in hl hx h1
    rw [nbL_rd hy] at hz
    refine .step ih ?_
    rw [nbL_rd hy, mem_nbS stepsL_ok]
    exact ((mem_nbS stepsL_ok).1 hz).imp (mono _) (mono _)
theorem kem_less {g : Int × List (Int × Int)} {k : Int} (hk : colCase g k) (hl : (allC g k).length ≤ 300) : cntN (nbL (allC g k).length (stepsL (kemP g.1.toNat g.2) (allC g k))) (allC g k).length ≤ cntN (nbL (allC g k).length (stepsL isCh (allC g k))) (allC g k).length :=
  cnt_mono fun i j hi _ hw => wk_mono (by omega) (fun x hx y hy h => ch_kem hk hx hy h) (in_nat hi) hw
theorem col_pos {g : Int × List (Int × Int)} {k : Int} {d : Nat} {S : List Nat} (hk : colCase g k) (hl : (allC g k).length ≤ 300) (hS : ∀ v, v ∈ S ↔ v < g.1.toNat) (hp : peels g.2 d S) (hd : (d : Int) + 1 ≤ k) : 0 < (allC g k).length := by
  have hg := hk.1
  have hloop : ∀ u : Nat, ¬ nearG g.2 (u : Int) (u : Int) := fun u h => by
    rcases h with h | h <;> · have := goodG_edges hg _ h; simp at this
  have hkk : ((k.toNat : Nat) : Int) = k := by have := hk.2; omega
  obtain ⟨f, hf⟩ := col_some hloop (show d + 1 ≤ k.toNat by omega) hp
  rw [hkk] at hf
  exact List.length_pos_of_mem (mem_allC hk hl (prS_proper hg hS hf))
theorem col_conn {g : Int × List (Int × Int)} {k D : Int} {S : List Nat} (hk : colCase g k) (hl : (allC g k).length ≤ 300) (hS : ∀ v, v ∈ S ↔ v < g.1.toNat) (h0 : 0 < g.1.toNat → 0 ≤ D) (hp : peels g.2 D.toNat S) (hd : D + 2 ≤ k) : cntN (nbL (allC g k).length (stepsL isCh (allC g k))) (allC g k).length = 1 := by
  by_cases hm : g.1.toNat = 0
  · have h1 := allC_one (k := k) hm
    refine cnt_one (by omega) fun i j hi hj => ?_
    rw [show i = j by omega]
    exact .base
  · have := h0 (by omega)
    exact cnt_one (col_pos hk hl hS hp (by omega)) (wk_idx (lex_nodup (allC_sorted g k).1) fun a ha b hb => peelCh hk hl hS hp (by omega) ha hb)
theorem kem_conn {g : Int × List (Int × Int)} {k D : Int} {S : List Nat} (hk : colCase g k) (hl : (allC g k).length ≤ 300) (hS : ∀ v, v ∈ S ↔ v < g.1.toNat) (h0 : 0 < g.1.toNat → 0 ≤ D) (hp : peels g.2 D.toNat S) (hd : D + 1 ≤ k) : cntN (nbL (allC g k).length (stepsL (kemP g.1.toNat g.2) (allC g k))) (allC g k).length = 1 := by
  by_cases hm : g.1.toNat = 0
  · have h1 := allC_one (k := k) hm
    refine cnt_one (by omega) fun i j hi hj => ?_
    rw [show i = j by omega]
    exact .base
  · have := h0 (by omega)
    exact cnt_one (col_pos hk hl hS hp (by omega)) (wk_idx (lex_nodup (allC_sorted g k).1) fun a ha b hb => peelKe hk hl hS hp (by omega) ha hb)
theorem spec_ColSp {N : Nat} {g : Int × List (Int × Int)} {k : Int} (hx : g.2.length ≤ 1048576) (hN : 1048577 ≤ N) : spec_ColourSpace N g k = some (((colSpV g k).1, (colSpV g k).2, ()), ()) := by
  unfold spec_ColourSpace
  simp only [show ((g.1, g.2) : Int × List (Int × Int)) = g from rfl]
  rw [l5Space_ch hx hN, bind_some']
theorem spec_KemSp {N : Nat} {g : Int × List (Int × Int)} {k : Int} (hx : g.2.length ≤ 1048576) (hN : 1048577 ≤ N) : spec_KempeSpace N g k = some (((kemSpV g k).1, (kemSpV g k).2, ()), ()) := by
  unfold spec_KempeSpace
  simp only [show ((g.1, g.2) : Int × List (Int × Int)) = g from rfl]
  rw [l5Space_kem hx hN, bind_some']
theorem spec_Cols {N : Nat} {g : Int × List (Int × Int)} {k : Int} (hx : g.2.length ≤ 1048576) (hN : 1048577 ≤ N) : spec_Colourings N g k = some (((colsR g k).1, (colsR g k).2, ()), ()) := by
  unfold spec_Colourings
  simp only [show ((g.1, g.2) : Int × List (Int × Int)) = g from rfl]
  rw [l5All_eq hx hN, bind_some']
theorem DrawColSp_ok {N : Nat} {code : List Int} (hco : codeOk code) (hN : 1048577 ≤ N) : ∃ (g : Int × List (Int × Int)) (k : Int), spec_DrawColourSpace N code = some (((g.1, g.2), k, ()), ()) ∧ g.2.length ≤ 110 ∧ -1 ≤ k ∧ k ≤ 6 := by
  unfold spec_DrawColourSpace spec_DrawColourings
  obtain ⟨g, c1, e1, e2, e3⟩ := dense5_ok (N := N) hco hN cur0 (by omega)
  obtain ⟨k, c2, f1, f2, f3, f4⟩ := many5_ok (N := N) hco e2 (by omega)
  refine ⟨g, k, ?_, e3, f3, f4⟩
  rw [e1, bind_some']
  simp only []
  rw [f1, bind_some', bind_some']
theorem Colourings_law {N : Nat} (hN : 1048577 ≤ N) {code : List Int} (hw : ∀ y ∈ code, (Lit.int .u8 y).wf = true) : laws_FnColourings N code = some ((true, ()), ()) := by
  unfold laws_FnColourings laws_vBig
  rw [bind_some']
  simp only []
  rw [tLen_n]
  by_cases hb : 65536 < code.length
  · rw [ilt_t (by omega), br_t]
  · rw [ilt_f (by omega), br_f]
    have hco := code_ok hw (by omega)
    obtain ⟨g, k, d1, d2, d3, d4⟩ := DrawColSp_ok (N := N) hco hN
    have hx : g.2.length ≤ 1048576 := by omega
    rw [d1, bind_some']
    simp only [show ((g.1, g.2) : Int × List (Int × Int)) = g from rfl]
    rw [impl_ColSp hx hN, bind_some', spec_ColSp hx hN, bind_some', impl_KemSp hx hN, bind_some', spec_KemSp hx hN, bind_some', colourings_eq hx hN, bind_some', spec_Cols hx hN, bind_some']
    simp only [beq_self_eq_true, Bool.not_true, br_f]
    by_cases h : colCase g k ∧ (allC g k).length ≤ 300
    · obtain ⟨hk, hl⟩ := h
      have e1 : colSpV g k = ((allC g k, stepsL isCh (allC g k)), true) := by unfold colSpV; rw [if_pos ⟨hk, hl⟩]
      have e2 : kemSpV g k = ((allC g k, stepsL (kemP g.1.toNat g.2) (allC g k)), true) := by unfold kemSpV; rw [if_pos ⟨hk, hl⟩]
      have e3 : colsR g k = (allC g k, true) := by unfold colsR; rw [if_pos ⟨hk, hl⟩]
      have s1 := colSteps_le hk hl
      have s2 := kemSteps_le hk hl
      have hm8 : g.1.toNat ≤ 8 := by have := hk.1.1; omega
      have hrow : ∀ x ∈ allC g k, x.length ≤ 1048576 := fun x hx => by rw [allC_rows x hx]; omega
      have hst : ∀ x ∈ allC g k, x.length ≤ 24 ∧ ∀ z ∈ x, -99 ≤ z ∧ z ≤ 99 := fun x hx => by
        refine ⟨by rw [allC_rows x hx]; omega, fun z hz => ?_⟩
        have := (allC_sorted g k).2 x hx z hz
        have := hk.2
        omega
      obtain ⟨o, D, tl, p1, p2, p3, p4, p5, p6, p7, p8⟩ := peelOf_prop (N := N) hk.1 hx hN
      obtain ⟨a, a1, a2⟩ := partsOf_cnt (N := N) hl (by omega) hst (allC_sorted g k).1 (stepsL_ok (p := isCh) (xs := allC g k)) hN
      obtain ⟨b, b1, b2⟩ := partsOf_cnt (N := N) hl (by omega) hst (allC_sorted g k).1 (stepsL_ok (p := kemP g.1.toNat g.2) (xs := allC g k)) hN
      have hle := kem_less hk hl
      have ht : laws_vTable N (allC g k) (allC g k) = some ((true, ()), ()) := by rw [vTable_eq (by omega) hrow hN, decide_eq_true rfl]
      rw [e1, e2, e3, p2, p3]
      simp only [bind_some', beq_self_eq_true, Bool.not_true, br_f]
      rw [vSpace_self (x := (allC g k, stepsL isCh (allC g k))) ⟨by simp only []; omega, hrow, by simp only []; omega, by simp only []; omega⟩ hN, bind_some']
      simp only [Bool.not_true, br_f]
      rw [vSpace_self (x := (allC g k, stepsL (kemP g.1.toNat g.2) (allC g k))) ⟨by simp only []; omega, hrow, by simp only []; omega, by simp only []; omega⟩ hN, bind_some']
      simp only [Bool.not_true, br_f]
      rw [ht, bind_some']
      simp only [Bool.not_true, br_f]
      rw [ine_f rfl, br_f, vInts_eq (by omega) (by omega), bind_some', decide_eq_true rfl]
      simp only [Bool.not_true, br_f]
      rw [a1, bind_some', b1, bind_some']
      simp only [Bool.not_true, br_f, ht, bind_some']
      rw [tLen_n, tLen_n, ilt_f (by omega), br_f, wrap_ok (by omega) (by omega), wrap_ok (by omega) (by omega)]
      by_cases q2 : k < D + 2
      · rw [ilt_t q2, br_t]
        by_cases q1 : k < D + 1
        · rw [ilt_t q1, br_t]
        · have := kem_conn hk hl p8 p6 p7 (by omega)
          rw [ilt_f q1, br_f, ieq_t (by omega)]
      · have c1 := col_conn hk hl p8 p6 p7 (by omega)
        have c2 := kem_conn hk hl p8 p6 p7 (by omega)
        rw [ilt_f q2, br_f, ieq_t (by omega), br_t, ilt_f (by omega), br_f, ieq_t (by omega)]
    · have e1 : colSpV g k = (([], []), false) := by unfold colSpV; rw [if_neg h]
      have e2 : kemSpV g k = (([], []), false) := by unfold kemSpV; rw [if_neg h]
      have e3 : colsR g k = ([], false) := by unfold colsR; rw [if_neg h]
      obtain ⟨r, r1, r2, r3⟩ := peel_eq (N := N) hx hN
      have hv : laws_vSpace N ([], []) ([], []) = some ((true, ()), ()) := vSpace_self (x := ([], [])) ⟨by simp, by simp, by simp, by simp⟩ hN
      have ht : laws_vTable N [] [] = some ((true, ()), ()) := by rw [vTable_eq (by simp) (by simp) hN, decide_eq_true rfl]
      rw [e1, e2, e3, r2, r3]
      simp only [bind_some', beq_self_eq_true, Bool.not_true, br_f]
      simp only [hv, ht, bind_some', Bool.not_true, br_f]
      rw [ine_f rfl, br_f, vInts_eq (by omega) (by omega), bind_some', decide_eq_true rfl]
      rfl
theorem ColouringsLaw_pureT : ∀ x : argsT (psOf [LU8]), WfA [LU8] x → ∃ k m, (laws_FnColourings_S k).f x = some ((true, ()), m) :=
  fun x h => ⟨1048577, (), Colourings_law (Nat.le_refl _) h.1.2⟩
end Go.Proofs.YtbnjcjpnpidhmaaGreat
