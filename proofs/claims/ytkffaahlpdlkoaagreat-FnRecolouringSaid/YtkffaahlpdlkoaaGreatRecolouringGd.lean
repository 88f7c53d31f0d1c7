/- Statements on data alone. -/
import Derived.Test.YtkffaahlpdlkoaaGreatPvPure
import Derived.Test.YtkffaahlpdlkoaaGreatRecolouringGc
set_option linter.all false
set_option linter.all false
namespace Go.Proofs.YtkffaahlpdlkoaaGreat
open Go Go.PV Classical
theorem lexSorted_nodup {xs : List (List Int)} (h : lexSorted xs) : xs.Nodup := h.imp fun hab e => by rw [e, lexC_self] at hab; omega
theorem apartL_symm {a b : List Int} (h : a.length = b.length) : apartL a b = apartL b a := by
  unfold apartL
  rw [h]
  congr 1
  refine List.filter_congr fun i _ => ?_
  by_cases h : rdI a (i : Int) = rdI b (i : Int)
  · simp [h]
  · have h' : ¬ rdI b (i : Int) = rdI a (i : Int) := fun e => h e.symm
    simp [h, h']
def changesL (k : Nat) (a : List Int) : List (List Int) := (List.range a.length).flatMap fun v : Nat => ((List.range k).filter fun c : Nat => decide ((c : Int) ≠ rdI a (v : Int))).map fun c : Nat => a.set v (c : Int)
theorem changesL_len {k : Nat} {a : List Int} (ha : ∀ z ∈ a, 0 ≤ z ∧ z < (k : Int)) : (changesL k a).length ≤ a.length * (k - 1) := by
  unfold changesL
  rw [List.length_flatMap]
  have := sum_le (f := fun v : Nat => (((List.range k).filter fun c : Nat => decide ((c : Int) ≠ rdI a (v : Int))).map fun c : Nat => a.set v (c : Int)).length) (b := k - 1) (xs := List.range a.length) fun v hv => by
    have hv := List.mem_range.1 hv
    have hz := ha (rdI a (v : Int)) (by rw [rdI_n hv]; exact List.getElem_mem hv)
    obtain ⟨z, hz1⟩ : ∃ z : Nat, rdI a (v : Int) = z := ⟨(rdI a (v : Int)).toNat, by omega⟩
    rw [List.length_map]
    have e : ((List.range k).filter fun c : Nat => decide ((c : Int) ≠ rdI a (v : Int))) = (List.range k).erase z := by
      rw [List.nodup_range.erase_eq_filter]
      refine List.filter_congr fun c _ => ?_
      rw [hz1]
      by_cases h : c = z
      · simp [h]
      · simp [h, show (c : Int) ≠ z by omega]
    rw [e, List.length_erase_of_mem (List.mem_range.2 (by omega)), List.length_range]
    exact Nat.le_refl _
  rwa [List.length_range] at this
theorem isCh_mem {k : Nat} {a b : List Int} (hab : a.length = b.length) (hb : ∀ z ∈ b, 0 ≤ z ∧ z < (k : Int)) (h : isCh a b = true) : b ∈ changesL k a := by
  have h1 := of_decide_eq_true h
  obtain ⟨v, hv⟩ := List.length_eq_one_iff.1 h1
  have hm : ∀ i : Nat, i < a.length → (rdI a (i : Int) ≠ rdI b (i : Int) ↔ (i : Int) = v) := by
    intro i hi
    have : (i : Int) ∈ apartL a b ↔ (i : Int) = v := by rw [hv]; simp
    rw [← this]
    unfold apartL
    rw [List.mem_map]
    constructor
    · intro hne
      exact ⟨i, List.mem_filter.2 ⟨List.mem_range'_1.2 (by omega), decide_eq_true hne⟩, rfl⟩
    · rintro ⟨j, hj, hji⟩
      have : j = i := by omega
      subst this
      exact of_decide_eq_true (List.mem_filter.1 hj).2
  have hvin : v ∈ apartL a b := by rw [hv]; simp
  obtain ⟨i, hi, rfl⟩ := List.mem_map.1 hvin
  have hil := List.mem_range'_1.1 (List.mem_filter.1 hi).1
  have hia : i < a.length := by omega
  have hz := hb (rdI b (i : Int)) (by rw [rdI_n (by omega)]; exact List.getElem_mem _)
  unfold changesL
  refine List.mem_flatMap.2 ⟨i, List.mem_range.2 hia, List.mem_map.2 ⟨(rdI b (i : Int)).toNat, List.mem_filter.2 ⟨List.mem_range.2 (by omega), decide_eq_true ?_⟩, ?_⟩⟩
  · have := (hm i hia).2 rfl
    rw [show (((rdI b (i : Int)).toNat : Nat) : Int) = rdI b (i : Int) by omega]
    exact fun e => this e.symm
  · rw [show (((rdI b (i : Int)).toNat : Nat) : Int) = rdI b (i : Int) by omega]
    refine List.ext_getElem (by rw [List.length_set]; exact hab) fun j h1 h2 => ?_
    rw [List.length_set] at h1
    by_cases hji : j = i
    · subst hji
      rw [List.getElem_set_self, rdI_n h2]
    · rw [List.getElem_set_ne (fun e => hji e.symm)]
      have := (hm j h1)
      have h3 : rdI a (j : Int) = rdI b (j : Int) := by
        by_cases he : rdI a (j : Int) = rdI b (j : Int)
        · exact he
        · have := this.1 he; omega
      rw [rdI_n h1, rdI_n h2] at h3
      exact h3
theorem colSteps_le {g : Int × List (Int × Int)} {k : Int} (h : colCase g k) (hl : (allC g k).length ≤ 300) : (stepsL isCh (allC g k)).length ≤ 4800 := by
  obtain ⟨s1, s2⟩ := allC_sorted g k
  have hr := allC_rows (g := g) (k := k)
  have hg := h.1.1
  have hk := h.2
  have := steps_half (p := isCh) (xs := allC g k) (B := 32) (fun a ha b hb => by unfold isCh; rw [apartL_symm (by rw [hr a ha, hr b hb])]) fun i hi => by
    have hi' : rdL (allC g k) (i : Int) ∈ allC g k := by rw [rdL_n hi]; exact List.getElem_mem hi
    refine Nat.le_trans (numP_le (p := fun b => isCh (rdL (allC g k) (i : Int)) b) (lexSorted_nodup s1) fun b hb hc => isCh_mem (by rw [hr _ hi', hr b hb]) (s2 b hb) hc) ?_
    refine Nat.le_trans (changesL_len (s2 _ hi')) ?_
    rw [hr _ hi']
    exact Nat.le_trans (Nat.mul_le_mul (show g.1.toNat ≤ 8 by omega) (show k.toNat - 1 ≤ 4 by omega)) (by omega)
  omega
theorem l5Changed_ap {N : Nat} {a b : List Int} (ha : a.length ≤ 1048576) (hab : a.length ≤ b.length) (hN : 1048577 ≤ N) : Zq114 N a b = some ((apartL a b, ()), ()) := by
  unfold Zq114
  refine (loop_iter (L := fun K n o => Zq114_l0 N (fun o => some ((o, ()), ())) K a b n o) (k := fun o => some ((o, ()), ())) (Inv := fun n o => o.length ≤ n) (step := fun n o => if rdI a (n : Int) ≠ rdI b (n : Int) then o ++ [(n : Int)] else o) (fun K n s hn _ => ?_) (fun K n s hn hs => ?_) (fun n s hn h => ?_) (s := []) (m := a.length) (K := N) (by omega) (Nat.zero_le _)).trans ?_
  · simp only [Zq114_l0, ilt_lenf hn, br_f]
  · simp only [Zq114_l0, ilt_len hn, br_t, inb_n hn, inb_n (show n < b.length by omega), chk_t]
    rw [wrap_succ (by omega), room_ok (by simp; omega), chk_t, tApp_d]
    by_cases h : rdI a (n : Int) = rdI b (n : Int)
    · rw [ine_f h, br_f, if_neg (not_not_intro h)]
    · rw [ine_t h, br_t, if_pos h]
  · by_cases hc : rdI a (n : Int) = rdI b (n : Int)
    · rw [if_neg (not_not_intro hc)]; omega
    · rw [if_pos hc]; simp; omega
  · rw [iter_app, List.nil_append]
    rfl
theorem l5Space_loop {N : Nat} {m : Int} {es : List (Int × Int)} {kempe : Bool} {xs : List (List Int)} {p : List Int → List Int → Bool} (hp : ∀ a ∈ xs, ∀ b ∈ xs, Zq120 N (m, es) kempe a b = some ((p a b, ()), ())) (hx : xs.length < 1024) (hN : 1048577 ≤ N) :
    Zq119_l0 N (fun o o1 => some (((o, o1), true, ()), ())) N kempe 0 m es xs [] = some (((xs, stepsL p xs), true, ()), ()) := by
  have hrd : ∀ j : Nat, j < xs.length → rdL xs (j : Int) ∈ xs := fun j hj => by rw [rdL_n hj]; exact List.getElem_mem hj
  have inner : ∀ (d i j K : Nat) (o : List (Int × Int)) (k0 : Bool → Int → Int → List (Int × Int) → List (List Int) → List (Int × Int) → Option (((List (List Int) × List (Int × Int)) × Bool × Unit) × Unit)), i < xs.length → j + d = xs.length → d < K → o.length + d ≤ 1099511627776 →
      Zq119_l0_0 N k0 K kempe (i : Int) (j : Int) m es xs o = k0 kempe (i : Int) m es xs (o ++ ((List.range' j d).filter fun j : Nat => p (rdL xs (i : Int)) (rdL xs (j : Int))).map fun j : Nat => ((i : Int), (j : Int))) := by
    intro d
    induction d with
    | zero =>
      intro i j K o k0 hi hj hK ho
      obtain ⟨k, rfl⟩ := succ_of hK
      simp only [Zq119_l0_0, ilt_lenf (show ¬ j < xs.length by omega), br_f]
      simp
    | succ d ih =>
      intro i j K o k0 hi hj hK ho
      obtain ⟨k, rfl⟩ := succ_of hK
      have hj' : j < xs.length := by omega
      simp only [Zq119_l0_0, ilt_len hj', br_t, inb_n hi, inb_n hj', chk_t]
      rw [hp _ (hrd i hi) _ (hrd j hj'), bind_some', room_ok (by simp; omega), chk_t, wrap_succ (by omega), tApp_d, List.range'_succ]
      simp only []
      cases hb : p (rdL xs (i : Int)) (rdL xs (j : Int)) with
      | true =>
        rw [br_t, ih i (j + 1) k _ k0 hi (by omega) (by omega) (by simp; omega), List.filter_cons_of_pos (by exact hb), List.append_assoc]
        rfl
      | false =>
        rw [br_f, ih i (j + 1) k _ k0 hi (by omega) (by omega) (by omega), List.filter_cons_of_neg (by rw [hb]; simp)]
  have go : ∀ (d i K : Nat) (o : List (Int × Int)), i + d = xs.length → d < K → o.length ≤ i * xs.length →
      Zq119_l0 N (fun o o1 => some (((o, o1), true, ()), ())) K kempe (i : Int) m es xs o = some (((xs, o ++ (List.range' i d).flatMap (rowSteps p xs)), true, ()), ()) := by
    intro d
    induction d with
    | zero =>
      intro i K o hd hK ho
      obtain ⟨k, rfl⟩ := succ_of hK
      simp only [Zq119_l0, ilt_lenf (show ¬ i < xs.length by omega), br_f]
      simp
    | succ d ih =>
      intro i K o hd hK ho
      obtain ⟨k, rfl⟩ := succ_of hK
      have hi : i < xs.length := by omega
      have hmul : i * xs.length ≤ 1024 * 1024 := Nat.mul_le_mul (by omega) (by omega)
      simp only [Zq119_l0, ilt_len hi, br_t]
      rw [wrap_succ (by omega)]
      have h1 := inner (xs.length - (i + 1)) i (i + 1) N o (fun kempe2 i1 o4 o5 o6 o7 => Zq119_l0 N (fun o o1 => some (((o, o1), true, ()), ())) k kempe2 (IntKind.i64.wrap (i1 + 1)) o4 o5 o6 o7) hi (by omega) (by omega) (by omega)
      rw [h1, wrap_succ (by omega)]
      have h2 := rowSteps_len p xs i
      have h3 := ih (i + 1) k (o ++ rowSteps p xs i) (by omega) (by omega) (by rw [List.length_append, Nat.add_mul, Nat.one_mul]; omega)
      rw [List.append_assoc] at h3
      rw [List.range'_succ, List.flatMap_cons]
      exact h3
  have := go xs.length 0 N [] (by omega) (by omega) (Nat.zero_le _)
  exact this
theorem orNone_eq {N : Nat} {x : List (List Int) × List (Int × Int)} (h1 : x.1.length ≤ 300) (h2 : x.2.length ≤ 6000) : Zq41 N x = some ((x, true, ()), ()) := by
  unfold Zq41
  rw [tLen_n, tLen_n, ilt_f (by omega), br_f, ilt_f (by omega), br_f]
noncomputable def colSpV (g : Int × List (Int × Int)) (k : Int) : (List (List Int) × List (Int × Int)) × Bool := if colCase g k ∧ (allC g k).length ≤ 300 then ((allC g k, stepsL isCh (allC g k)), true) else (([], []), false)
theorem rd_kempe {m : Nat} {es : List (Int × Int)} {cs : List Int} {x c : Int} (hcs : cs.length = m) (hx : InN m x) {y : Int} (hy : InN m y) : rdI (kempeR m es cs x c) y = if y ∈ chainR m es cs x c then (if rdI cs y = rdI cs x then c else rdI cs x) else rdI cs y := by
  have hxs : x ∈ someL m cs (rdI cs x) c := mem_someL.2 ⟨hx, .inl rfl⟩
  have hst := (reachS_spec (es := es) hxs).1
  have hin : ∀ z ∈ chainR m es cs x c, InN m z := fun z hz => (chainR_mem hx hz).1
  have go : ∀ (l o : List Int), l.Nodup → (∀ z ∈ l, InN m z) → o.length = m → rdI (l.foldl (kStep cs (rdI cs x) c) o) y = if y ∈ l then (if rdI cs y = rdI cs x then c else rdI cs x) else rdI o y := by
    intro l
    induction l with
    | nil => intro o _ _ _; simp
    | cons z l ih =>
      intro o hn hz ho
      obtain ⟨h1, h2⟩ := List.nodup_cons.1 hn
      obtain ⟨i, hi, rfl⟩ := nat_of (hz z (List.mem_cons_self ..))
      rw [List.foldl_cons, ih _ h2 (fun w hw => hz w (List.mem_cons_of_mem _ hw)) (by rw [kStep_len]; exact ho)]
      have hk : rdI (kStep cs (rdI cs x) c o (i : Int)) y = if y = i then (if rdI cs (i : Int) = rdI cs x then c else rdI cs x) else rdI o y := by
        unfold kStep
        rw [rdI_set (by omega) _ y hy.1]
      rw [hk]
      by_cases hyl : y ∈ l
      · have : y ≠ (i : Int) := by rintro rfl; exact h1 hyl
        simp [hyl]
      · by_cases hyi : y = i
        · subst hyi; simp [hyl]
        · simp [hyl, hyi]
  exact go _ _ (strict_nodup hst) hin hcs
theorem x_in_chain {m : Nat} {es : List (Int × Int)} {cs : List Int} {x c : Int} (hx : InN m x) : x ∈ chainR m es cs x c := by
  have hxs : x ∈ someL m cs (rdI cs x) c := mem_someL.2 ⟨hx, .inl rfl⟩
  exact ((reachS_spec (es := es) hxs).2 x).2 .base
theorem kempe_back {m : Nat} {es : List (Int × Int)} {cs : List Int} {x c : Int} (hcs : cs.length = m) (hx : InN m x) (hne : rdI cs x ≠ c) : kempeR m es (kempeR m es cs x c) x (rdI cs x) = cs ∧ rdI (kempeR m es cs x c) x = c ∧ chainR m es (kempeR m es cs x c) x (rdI cs x) = chainR m es cs x c := by
  have hd := kempeR_len m es cs x c
  have hrd := fun (y : Int) (hy : InN m y) => rd_kempe (es := es) (c := c) hcs hx hy
  have hdx : rdI (kempeR m es cs x c) x = c := by rw [hrd x hx, if_pos (x_in_chain hx), if_pos rfl]
  have hset : someL m (kempeR m es cs x c) (rdI (kempeR m es cs x c) x) (rdI cs x) = someL m cs (rdI cs x) c := by
    rw [hdx]
    unfold someL
    congr 1
    refine List.filter_congr fun i hi => ?_
    have hi := List.mem_range'_1.1 hi
    rw [hrd (i : Int) (in_nat (by omega))]
    by_cases hm : (i : Int) ∈ chainR m es cs x c
    · rw [if_pos hm]
      have hc := (chainR_mem hx hm).2
      have h1 : (if rdI cs (i : Int) = rdI cs x then c else rdI cs x) = c ∨ (if rdI cs (i : Int) = rdI cs x then c else rdI cs x) = rdI cs x := by
        split
        · exact .inl rfl
        · exact .inr rfl
      rw [decide_eq_true h1, decide_eq_true hc]
    · rw [if_neg hm]
      by_cases h1 : rdI cs (i : Int) = c <;> by_cases h2 : rdI cs (i : Int) = rdI cs x <;> simp [h1, h2]
  have hch : chainR m es (kempeR m es cs x c) x (rdI cs x) = chainR m es cs x c := by
    unfold chainR
    rw [hset]
  refine ⟨?_, hdx, hch⟩
  refine List.ext_getElem (by rw [kempeR_len, hd]) fun i h1 h2 => ?_
  have hi : InN m (i : Int) := in_nat (by omega)
  have e := rd_kempe (es := es) (c := rdI cs x) (by rw [hd, hcs]) hx hi (cs := kempeR m es cs x c)
  rw [rdI_n h1, hch, hdx] at e
  rw [e]
  by_cases hm : (i : Int) ∈ chainR m es cs x c
  · rw [if_pos hm, hrd _ hi, if_pos hm, ← rdI_n h2]
    have hc := (chainR_mem hx hm).2
    by_cases h3 : rdI cs (i : Int) = rdI cs x
    · rw [if_pos h3, if_pos rfl, h3]
    · rw [if_neg h3, if_neg hne]
      exact (hc.resolve_left h3).symm
  · rw [if_neg hm, hrd _ hi, if_neg hm, rdI_n h2]
noncomputable def kemP (m : Nat) (es : List (Int × Int)) (a b : List Int) : Bool := match apartL a b with
  | [] => false
  | x :: _ => decide (kempeR m es a x (rdI b x) = b)
theorem apart_mem {a b : List Int} {x : Int} (h : x ∈ apartL a b) : InN a.length x ∧ rdI a x ≠ rdI b x := by
  unfold apartL at h
  obtain ⟨i, hi, rfl⟩ := List.mem_map.1 h
  obtain ⟨h1, h2⟩ := List.mem_filter.1 hi
  have := List.mem_range'_1.1 h1
  exact ⟨in_nat (by omega), of_decide_eq_true h2⟩
theorem kemP_symm {m : Nat} {es : List (Int × Int)} {a b : List Int} (ha : a.length = m) (hb : b.length = m) : kemP m es a b = kemP m es b a := by
  have hs := apartL_symm (a := a) (b := b) (by omega)
  unfold kemP
  rw [← hs]
  cases hl : apartL a b with
  | nil => rfl
  | cons x l =>
    obtain ⟨h1, h2⟩ := apart_mem (a := a) (b := b) (x := x) (by rw [hl]; exact List.mem_cons_self ..)
    rw [ha] at h1
    simp only []
    have k1 := kempe_back (es := es) (c := rdI b x) ha h1 h2
    have k2 := kempe_back (es := es) (c := rdI a x) hb h1 (fun e => h2 e.symm)
    by_cases hk : kempeR m es a x (rdI b x) = b
    · have : kempeR m es b x (rdI a x) = a := by have := k1.1; rwa [hk] at this
      rw [decide_eq_true hk, decide_eq_true this]
    · have : ¬ kempeR m es b x (rdI a x) = a := by
        intro e
        apply hk
        have := k2.1
        rwa [e] at this
      rw [decide_eq_false hk, decide_eq_false this]
noncomputable def kemL (k m : Nat) (es : List (Int × Int)) (a : List Int) : List (List Int) := (List.range a.length).flatMap fun v : Nat => ((List.range k).filter fun c : Nat => decide ((c : Int) ≠ rdI a (v : Int))).map fun c : Nat => kempeR m es a (v : Int) (c : Int)
theorem kemL_len {k m : Nat} {es : List (Int × Int)} {a : List Int} (ha : ∀ z ∈ a, 0 ≤ z ∧ z < (k : Int)) : (kemL k m es a).length ≤ a.length * (k - 1) := by
  unfold kemL
  rw [List.length_flatMap]
  have := sum_le (f := fun v : Nat => (((List.range k).filter fun c : Nat => decide ((c : Int) ≠ rdI a (v : Int))).map fun c : Nat => kempeR m es a (v : Int) (c : Int)).length) (b := k - 1) (xs := List.range a.length) fun v hv => by
    have hv := List.mem_range.1 hv
    have hz := ha (rdI a (v : Int)) (by rw [rdI_n hv]; exact List.getElem_mem hv)
    obtain ⟨z, hz1⟩ : ∃ z : Nat, rdI a (v : Int) = z := ⟨(rdI a (v : Int)).toNat, by omega⟩
    rw [List.length_map]
    have e : ((List.range k).filter fun c : Nat => decide ((c : Int) ≠ rdI a (v : Int))) = (List.range k).erase z := by
      rw [List.nodup_range.erase_eq_filter]
      refine List.filter_congr fun c _ => ?_
      rw [hz1]
      by_cases h : c = z
      · simp [h]
      · simp [h, show (c : Int) ≠ z by omega]
    rw [e, List.length_erase_of_mem (List.mem_range.2 (by omega)), List.length_range]
    exact Nat.le_refl _
  rwa [List.length_range] at this
theorem kemP_mem {k m : Nat} {es : List (Int × Int)} {a b : List Int} (ha : a.length = m) (hb : b.length = m) (hbc : ∀ z ∈ b, 0 ≤ z ∧ z < (k : Int)) (h : kemP m es a b = true) : b ∈ kemL k m es a := by
  unfold kemP at h
  cases hl : apartL a b with
  | nil => rw [hl] at h; cases h
  | cons x l =>
    rw [hl] at h
    simp only [] at h
    have h := of_decide_eq_true h
    obtain ⟨h1, h2⟩ := apart_mem (a := a) (b := b) (x := x) (by rw [hl]; exact List.mem_cons_self ..)
    obtain ⟨i, hi, rfl⟩ := nat_of h1
    have hz := hbc (rdI b (i : Int)) (by rw [rdI_n (by omega)]; exact List.getElem_mem _)
    unfold kemL
    refine List.mem_flatMap.2 ⟨i, List.mem_range.2 hi, List.mem_map.2 ⟨(rdI b (i : Int)).toNat, List.mem_filter.2 ⟨List.mem_range.2 (by omega), decide_eq_true ?_⟩, ?_⟩⟩
    · rw [show (((rdI b (i : Int)).toNat : Nat) : Int) = rdI b (i : Int) by omega]
      exact fun e => h2 e.symm
    · rw [show (((rdI b (i : Int)).toNat : Nat) : Int) = rdI b (i : Int) by omega]
      exact h
theorem kemSteps_le {g : Int × List (Int × Int)} {k : Int} (h : colCase g k) (hl : (allC g k).length ≤ 300) : (stepsL (kemP g.1.toNat g.2) (allC g k)).length ≤ 4800 := by
  obtain ⟨s1, s2⟩ := allC_sorted g k
  have hr := allC_rows (g := g) (k := k)
  have hg := h.1.1
  have hk := h.2
  have := steps_half (p := kemP g.1.toNat g.2) (xs := allC g k) (B := 32) (fun a ha b hb => kemP_symm (hr a ha) (hr b hb)) fun i hi => by
    have hi' : rdL (allC g k) (i : Int) ∈ allC g k := by rw [rdL_n hi]; exact List.getElem_mem hi
    refine Nat.le_trans (numP_le (p := fun b => kemP g.1.toNat g.2 (rdL (allC g k) (i : Int)) b) (lexSorted_nodup s1) fun b hb hc => kemP_mem (hr _ hi') (hr b hb) (s2 b hb) hc) ?_
    refine Nat.le_trans (kemL_len (s2 _ hi')) ?_
    rw [hr _ hi']
    exact Nat.le_trans (Nat.mul_le_mul (show g.1.toNat ≤ 8 by omega) (show k.toNat - 1 ≤ 4 by omega)) (by omega)
  omega
theorem apart_nil {a b : List Int} (h : a.length = b.length) (hn : apartL a b = []) : a = b := by
  refine List.ext_getElem h fun i h1 h2 => ?_
  by_cases he : rdI a (i : Int) = rdI b (i : Int)
  · rwa [rdI_n h1, rdI_n h2] at he
  · have : (i : Int) ∈ apartL a b := by
      unfold apartL
      exact List.mem_map.2 ⟨i, List.mem_filter.2 ⟨List.mem_range'_1.2 (by omega), decide_eq_true he⟩, rfl⟩
    rw [hn] at this
    cases this
noncomputable def kemSpV (g : Int × List (Int × Int)) (k : Int) : (List (List Int) × List (Int × Int)) × Bool := if colCase g k ∧ (allC g k).length ≤ 300 then ((allC g k, stepsL (kemP g.1.toNat g.2) (allC g k)), true) else (([], []), false)
theorem l5Step_kem {N m : Nat} {es : List (Int × Int)} {a b : List Int} (hm : m ≤ 8) (hx : es.length ≤ 1048576) (ha : a.length = m) (hb : b.length = m) (hac : ∀ z ∈ a, 0 ≤ z ∧ z ≤ 4) (hbc : ∀ z ∈ b, 0 ≤ z ∧ z ≤ 4) (hN : 1048577 ≤ N) : Zq120 N ((m : Int), es) true a b = some ((kemP m es a b, ()), ()) := by
  unfold Zq120 kemP
  rw [l5Changed_ap (by omega) (by omega) hN, bind_some', Bool.not_true, br_f]
  simp only []
  cases hl : apartL a b with
  | nil => rfl
  | cons x l =>
    obtain ⟨h1, h2⟩ := apart_mem (a := a) (b := b) (x := x) (by rw [hl]; exact List.mem_cons_self ..)
    obtain ⟨i, hi, rfl⟩ := nat_of h1
    have e0 : rdI ((i : Int) :: l) 0 = (i : Int) := rfl
    have hbi := hbc (rdI b (i : Int)) (by rw [rdI_n (by omega)]; exact List.getElem_mem _)
    rw [ieq_f (by rw [tLen_n, List.length_cons]; omega), br_f]
    simp only [e0, inb_n (show i < b.length by omega), chk_t]
    rw [show inb ((i : Int) :: l) 0 = true from inb_n (by simp), chk_t, chk_t, spec_kempe_eq hm hx (by omega) (by omega) hbi hac hN, bind_some', l1Same_eq (by rw [kempeR_len]; omega) hN, bind_some']
theorem impl_kem {N m : Nat} {es : List (Int × Int)} {a b : List Int} (hm : m ≤ 8) (hg : goodG ((m : Int), es)) (hx : es.length ≤ 1048576) (ha : a.length = m) (hb : b.length = m) (hne : a ≠ b) (hN : 1048577 ≤ N) : (Zq20 N a b ((m : Int), es)).bind (fun z => some z.1.1) = some (kemP m es a b) := by
  unfold Zq20 kemP
  rw [places_ap (by omega) (by omega) hN, bind_some']
  simp only []
  cases hl : apartL a b with
  | nil => exact absurd (apart_nil (by omega) hl) hne
  | cons x l =>
    obtain ⟨h1, h2⟩ := apart_mem (a := a) (b := b) (x := x) (by rw [hl]; exact List.mem_cons_self ..)
    obtain ⟨i, hi, rfl⟩ := nat_of h1
    have e0 : rdI ((i : Int) :: l) 0 = (i : Int) := rfl
    simp only [e0, inb_n (show i < b.length by omega), chk_t]
    rw [show inb ((i : Int) :: l) 0 = true from inb_n (by simp), chk_t, chk_t, impl_kempe_eq hm hg hx (by omega) (by omega) hN, bind_some', Equal_eq (by rw [kempeR_len]; omega) hN, bind_some', bind_some']
def okSt (n : Nat) (st : List (Int × Int)) : Prop := (st.Pairwise fun a b => a.1 < b.1 ∨ (a.1 = b.1 ∧ a.2 < b.2)) ∧ ∀ e ∈ st, 0 ≤ e.1 ∧ e.1 < e.2 ∧ e.2 < (n : Int)
noncomputable def nbA (st : List (Int × Int)) (v : Int) : List Int := (st.filter fun e => decide (e.2 = v)).map Prod.fst
noncomputable def nbB (st : List (Int × Int)) (v : Int) : List Int := (st.filter fun e => decide (e.1 = v)).map Prod.snd
noncomputable def nbS (st : List (Int × Int)) (v : Int) : List Int := nbA st v ++ nbB st v
noncomputable def nbT (st : List (Int × Int)) (v : Int) : List Int := st.flatMap fun e => (if e.1 = v then [e.2] else []) ++ (if e.2 = v then [e.1] else [])
noncomputable def nbL (n : Nat) (st : List (Int × Int)) : List (List Int) := (List.range n).map fun i : Nat => nbS st (i : Int)
theorem okSt_cons {n : Nat} {e : Int × Int} {st : List (Int × Int)} (h : okSt n (e :: st)) : okSt n st := ⟨(List.pairwise_cons.1 h.1).2, fun e' he' => h.2 e' (List.mem_cons_of_mem _ he')⟩
theorem nbT_eq {n : Nat} : ∀ {st : List (Int × Int)} {v : Int}, okSt n st → nbT st v = nbS st v := by
  intro st v
  induction st with
  | nil => intro _; rfl
  | cons e st ih =>
    intro h
    have ih := ih (okSt_cons h)
    have h1 := h.2 e (List.mem_cons_self ..)
    have h2 := (List.pairwise_cons.1 h.1).1
    unfold nbT at ih ⊢
    rw [List.flatMap_cons, ih]
    unfold nbS nbA nbB
    by_cases he : e.1 = v
    · have hne : ¬ e.2 = v := by omega
      have hnil : (st.filter fun e => decide (e.2 = v)) = [] := List.filter_eq_nil_iff.2 fun b hb => by
        have hb1 := h2 b hb
        have hb2 := h.2 b (List.mem_cons_of_mem _ hb)
        simp only [decide_eq_true_eq]
        omega
      rw [if_pos he, if_neg hne, List.filter_cons_of_neg (by simp [hne]), List.filter_cons_of_pos (by simp [he]), hnil]
      rfl
    · by_cases he2 : e.2 = v
      · rw [if_neg he, if_pos he2, List.filter_cons_of_pos (by simp [he2]), List.filter_cons_of_neg (by simp [he])]
        rfl
      · rw [if_neg he, if_neg he2, List.filter_cons_of_neg (by simp [he2]), List.filter_cons_of_neg (by simp [he])]
        rfl
theorem nbS_strict {n : Nat} {st : List (Int × Int)} {v : Int} (h : okSt n st) : (nbS st v).Pairwise (· < ·) := by
  unfold nbS nbA nbB
  refine List.pairwise_append.2 ⟨?_, ?_, ?_⟩
  · refine List.pairwise_map.2 ((h.1.filter _).imp_of_mem fun {a b} ha hb hab => ?_)
    have e1 := of_decide_eq_true (List.mem_filter.1 ha).2
    have e2 := of_decide_eq_true (List.mem_filter.1 hb).2
    omega
  · refine List.pairwise_map.2 ((h.1.filter _).imp_of_mem fun {a b} ha hb hab => ?_)
    have e1 := of_decide_eq_true (List.mem_filter.1 ha).2
    have e2 := of_decide_eq_true (List.mem_filter.1 hb).2
    omega
  · intro a ha b hb
    obtain ⟨a', ha1, rfl⟩ := List.mem_map.1 ha
    obtain ⟨b', hb1, rfl⟩ := List.mem_map.1 hb
    have e1 := of_decide_eq_true (List.mem_filter.1 ha1).2
    have e2 := of_decide_eq_true (List.mem_filter.1 hb1).2
    have l1 := h.2 a' (List.mem_filter.1 ha1).1
    have l2 := h.2 b' (List.mem_filter.1 hb1).1
    omega
theorem nbS_in {n : Nat} {st : List (Int × Int)} {v : Int} (h : okSt n st) : ∀ z ∈ nbS st v, InN n z := by
  intro z hz
  unfold nbS nbA nbB at hz
  rcases List.mem_append.1 hz with hz | hz
  · obtain ⟨a, ha, rfl⟩ := List.mem_map.1 hz
    have := h.2 a (List.mem_filter.1 ha).1
    exact ⟨by omega, by omega⟩
  · obtain ⟨a, ha, rfl⟩ := List.mem_map.1 hz
    have := h.2 a (List.mem_filter.1 ha).1
    exact ⟨by omega, by omega⟩
theorem nbS_len {n : Nat} {st : List (Int × Int)} {v : Int} (h : okSt n st) : (nbS st v).length ≤ n :=
  inM_len ⟨strict_nodup (nbS_strict h), nbS_in h⟩
theorem mem_nbS {n : Nat} {st : List (Int × Int)} {v w : Int} (h : okSt n st) : w ∈ nbS st v ↔ (w, v) ∈ st ∨ (v, w) ∈ st := by
  unfold nbS nbA nbB
  rw [List.mem_append, List.mem_map, List.mem_map]
  constructor
  · rintro (⟨a, ha, rfl⟩ | ⟨a, ha, rfl⟩)
    · have e1 := of_decide_eq_true (List.mem_filter.1 ha).2
      refine .inl ?_
      rw [← e1]
      exact (List.mem_filter.1 ha).1
    · have e1 := of_decide_eq_true (List.mem_filter.1 ha).2
      refine .inr ?_
      rw [← e1]
      exact (List.mem_filter.1 ha).1
  · rintro (ha | ha)
    · exact .inl ⟨_, List.mem_filter.2 ⟨ha, by simp⟩, rfl⟩
    · exact .inr ⟨_, List.mem_filter.2 ⟨ha, by simp⟩, rfl⟩
theorem nbL_rd {n : Nat} {st : List (Int × Int)} {v : Int} (hv : InN n v) : rdL (nbL n st) v = nbS st v := by
  obtain ⟨i, hi, rfl⟩ := nat_of hv
  rw [rdL_n (by simp [nbL]; exact hi)]
  simp [nbL]
theorem nbL_ok {n : Nat} {st : List (Int × Int)} (hn : n ≤ 1048576) (h : okSt n st) : okLists (nbL n st) n := by
  refine ⟨by simp [nbL], fun l hl => ?_⟩
  obtain ⟨i, _, rfl⟩ := List.mem_map.1 hl
  exact ⟨Nat.le_trans (nbS_len h) hn, nbS_in h⟩
theorem stepsL_ok {p : List Int → List Int → Bool} {xs : List (List Int)} : okSt xs.length (stepsL p xs) := by
  have hin : ∀ i, i < xs.length → ∀ e ∈ rowSteps p xs i, e.1 = (i : Int) ∧ e.1 < e.2 ∧ e.2 < (xs.length : Int) := by
    intro i hi e he
    unfold rowSteps at he
    obtain ⟨j, hj, rfl⟩ := List.mem_map.1 he
    have := List.mem_range'_1.1 (List.mem_filter.1 hj).1
    refine ⟨rfl, ?_, ?_⟩
    · show (i : Int) < (j : Int)
      omega
    · show (j : Int) < _
      omega
  constructor
  · unfold stepsL
    rw [List.pairwise_flatMap]
    refine ⟨fun i hi => ?_, ?_⟩
    · unfold rowSteps
      refine List.pairwise_map.2 (List.Pairwise.filter _ ?_)
      refine (List.pairwise_lt_range' (step := 1) (by omega)).imp fun {a b} hab => .inr ⟨rfl, ?_⟩
      show (a : Int) < (b : Int)
      omega
    · refine List.Pairwise.imp_of_mem ?_ (List.pairwise_lt_range' (step := 1) (by omega))
      intro a b ha hb hab x hx y hy
      have ha := List.mem_range'_1.1 ha
      have hb := List.mem_range'_1.1 hb
      have h1 := hin a (by omega) x hx
      have h2 := hin b (by omega) y hy
      omega
  · intro e he
    unfold stepsL at he
    obtain ⟨i, hi, he⟩ := List.mem_flatMap.1 he
    have hi := List.mem_range'_1.1 hi
    have := hin i (by omega) e he
    omega
theorem set_map {n v : Nat} {f g : Nat → List Int} {u : List Int} (h : g v = u) (ho : ∀ i, i < n → i ≠ v → g i = f i) : tSet ((List.range n).map f) (v : Int) u = (List.range n).map g := by
  rw [tSet_n]
  refine List.ext_getElem (by simp) fun i h1 h2 => ?_
  rw [List.length_set, List.length_map, List.length_range] at h1
  by_cases hi : i = v
  · subst hi
    rw [List.getElem_set_self]
    simp [h]
  · rw [List.getElem_set_ne (fun e => hi e.symm)]
    simp [ho i h1 hi]
theorem rdL_map {n : Nat} {f : Nat → List Int} {i : Nat} (hi : i < n) : rdL ((List.range n).map f) (i : Int) = f i := by
  rw [rdL_n (by simp; exact hi)]
  simp
theorem inb_map {n : Nat} {f : Nat → List Int} {i : Nat} (hi : i < n) : inb ((List.range n).map f) (i : Int) = true := inb_n (by simp; exact hi)
theorem rep_map (n : Nat) : List.replicate n ([] : List Int) = (List.range n).map fun _ => [] := by
  refine List.ext_getElem (by simp) fun i h1 h2 => ?_
  simp
theorem rdP_mid (p q : List (Int × Int)) (e : Int × Int) : rdP (p ++ e :: q) ((p.length : Nat) : Int) = e := by simp [rdP]
theorem nbA_snoc (p : List (Int × Int)) (e : Int × Int) (v : Int) : nbA (p ++ [e]) v = nbA p v ++ if e.2 = v then [e.1] else [] := by
  unfold nbA
  by_cases h : e.2 = v <;> simp [h]
theorem nbB_snoc (p : List (Int × Int)) (e : Int × Int) (v : Int) : nbB (p ++ [e]) v = nbB p v ++ if e.1 = v then [e.2] else [] := by
  unfold nbB
  by_cases h : e.1 = v <;> simp [h]
theorem nbT_snoc (p : List (Int × Int)) (e : Int × Int) (v : Int) : nbT (p ++ [e]) v = nbT p v ++ ((if e.1 = v then [e.2] else []) ++ (if e.2 = v then [e.1] else [])) := by
  unfold nbT
  rw [List.flatMap_append]
  simp
theorem nbA_len (p : List (Int × Int)) (v : Int) : (nbA p v).length ≤ p.length := by unfold nbA; rw [List.length_map]; exact List.length_filter_le ..
theorem nbB_len (p : List (Int × Int)) (v : Int) : (nbB p v).length ≤ p.length := by unfold nbB; rw [List.length_map]; exact List.length_filter_le ..
theorem nbT_len (p : List (Int × Int)) (v : Int) : (nbT p v).length ≤ 2 * p.length := by
  induction p with
  | nil => simp [nbT]
  | cons e p ih =>
    unfold nbT at ih ⊢
    rw [List.flatMap_cons, List.length_append, List.length_append, List.length_cons]
    have h1 : (if e.1 = v then [e.2] else []).length ≤ 1 := by by_cases h : e.1 = v <;> simp [h]
    have h2 : (if e.2 = v then [e.1] else []).length ≤ 1 := by by_cases h : e.2 = v <;> simp [h]
    omega
theorem l2Lists_eq {N : Nat} {xs : List (List Int)} {st : List (Int × Int)} (hx : xs.length ≤ 1048576) (hs : st.length ≤ 1048576) (h : okSt xs.length st) (hN : 1048577 ≤ N) : Zq101 N (xs, st) = some ((nbL xs.length st, ()), ()) := by
  have hin : ∀ e ∈ st, ∃ a b : Nat, e = ((a : Int), (b : Int)) ∧ a < xs.length ∧ b < xs.length := fun e he => by
    have := h.2 e he
    exact ⟨e.1.toNat, e.2.toNat, Prod.ext (by simp only []; omega) (by simp only []; omega), by omega, by omega⟩
  have goA : ∀ (q p : List (Int × Int)) (K : Nat) (k0 : List (List Int) → List (Int × Int) → List (List Int) → Option ((List (List Int) × Unit) × Unit)), q.length < K → p ++ q = st →
      Zq101_l0 N k0 K (p.length : Int) xs st ((List.range xs.length).map fun i : Nat => nbA p (i : Int)) = k0 xs st ((List.range xs.length).map fun i : Nat => nbA st (i : Int)) := by
    intro q
    induction q with
    | nil =>
      intro p K k0 hK hp
      obtain ⟨k, rfl⟩ := succ_of hK
      rw [List.append_nil] at hp
      subst hp
      simp only [Zq101_l0, ilt_lenf (Nat.lt_irrefl _), br_f]
    | cons e q ih =>
      intro p K k0 hK hp
      obtain ⟨k, rfl⟩ := succ_of hK
      have hpl : p.length < st.length := by rw [← hp]; simp
      obtain ⟨a, b, rfl, ha, hb⟩ := hin e (by rw [← hp]; simp)
      have hr : rdP st (p.length : Int) = ((a : Int), (b : Int)) := by rw [← hp, rdP_mid]
      have hl := nbA_len p (b : Int)
      simp only [Zq101_l0, ilt_len hpl, br_t, inb_n hpl, chk_t, hr, inb_map hb, rdL_map hb]
      rw [room_ok (by simp; omega), chk_t, ieq_t rfl, chk_t, wrap_succ (by omega), tApp_d, set_map (g := fun i : Nat => nbA (p ++ [((a : Int), (b : Int))]) (i : Int)) (by rw [nbA_snoc]; simp) (fun i _ hi => by rw [nbA_snoc, if_neg (by simp only []; omega), List.append_nil])]
      have := ih (p ++ [((a : Int), (b : Int))]) k k0 (by simp at hK; omega) (by rw [List.append_assoc]; exact hp)
      rw [List.length_append, List.length_singleton] at this
      exact this
  have goB : ∀ (q p : List (Int × Int)) (K : Nat) (k0 : List (List Int) → Option ((List (List Int) × Unit) × Unit)), q.length < K → p ++ q = st →
      Zq101_l1 N k0 K (p.length : Int) xs st ((List.range xs.length).map fun i : Nat => nbA st (i : Int) ++ nbB p (i : Int)) = k0 ((List.range xs.length).map fun i : Nat => nbA st (i : Int) ++ nbB st (i : Int)) := by
    intro q
    induction q with
    | nil =>
      intro p K k0 hK hp
      obtain ⟨k, rfl⟩ := succ_of hK
      rw [List.append_nil] at hp
      subst hp
      simp only [Zq101_l1, ilt_lenf (Nat.lt_irrefl _), br_f]
    | cons e q ih =>
      intro p K k0 hK hp
      obtain ⟨k, rfl⟩ := succ_of hK
      have hpl : p.length < st.length := by rw [← hp]; simp
      obtain ⟨a, b, rfl, ha, hb⟩ := hin e (by rw [← hp]; simp)
      have hr : rdP st (p.length : Int) = ((a : Int), (b : Int)) := by rw [← hp, rdP_mid]
      have hl := nbB_len p (a : Int)
      have hl2 := nbA_len st (a : Int)
      simp only [Zq101_l1, ilt_len hpl, br_t, inb_n hpl, chk_t, hr, inb_map ha, rdL_map ha]
      rw [room_ok (by simp; omega), chk_t, ieq_t rfl, chk_t, wrap_succ (by omega), tApp_d, set_map (g := fun i : Nat => nbA st (i : Int) ++ nbB (p ++ [((a : Int), (b : Int))]) (i : Int)) (by rw [nbB_snoc]; simp) (fun i _ hi => by rw [nbB_snoc, if_neg (by simp only []; omega), List.append_nil])]
      have := ih (p ++ [((a : Int), (b : Int))]) k k0 (by simp at hK; omega) (by rw [List.append_assoc]; exact hp)
      rw [List.length_append, List.length_singleton] at this
      exact this
  unfold Zq101
  simp only []
  rw [tLen_n, ile_t (by omega), ile_t (Int.le_refl _), fits_ok (by omega)]
  simp only [Bool.and_self, chk_t]
  rw [tRep_n, rep_map]
  have g1 := goA st [] N (fun o o1 o2 => Zq101_l1 N (fun o3 => some ((o3, ()), ())) N 0 o o1 o2) (by omega) rfl
  have e1 : ((List.range xs.length).map fun i : Nat => nbA [] (i : Int)) = (List.range xs.length).map fun _ => [] := rfl
  rw [e1] at g1
  simp only [List.length_nil, Int.natCast_zero] at g1
  rw [g1]
  have g2 := goB st [] N (fun o3 => some ((o3, ()), ())) (by omega) rfl
  have e2 : ((List.range xs.length).map fun i : Nat => nbA st (i : Int) ++ nbB [] (i : Int)) = (List.range xs.length).map fun i : Nat => nbA st (i : Int) := List.map_congr_left fun i _ => by show nbA st (i : Int) ++ [] = _; rw [List.append_nil]
  rw [e2] at g2
  simp only [List.length_nil, Int.natCast_zero] at g2
  rw [g2]
  rfl
theorem sroads_eq {N : Nat} {xs : List (List Int)} {st : List (Int × Int)} (hx : xs.length < 1024) (hs : st.length ≤ 1048576) (h : okSt xs.length st) (hN : 1048577 ≤ N) : Zq26 N (xs, st) = some ((nbL xs.length st, ()), ()) := by
  have hin : ∀ e ∈ st, ∃ a b : Nat, e = ((a : Int), (b : Int)) ∧ a < b ∧ b < xs.length := fun e he => by
    have := h.2 e he
    exact ⟨e.1.toNat, e.2.toNat, Prod.ext (by simp only []; omega) (by simp only []; omega), by omega, by omega⟩
  have goA : ∀ (q p : List (Int × Int)) (K : Nat) (k0 : List (List Int) → Option ((List (List Int) × Unit) × Unit)), q.length < K → p ++ q = st →
      Zq26_l0 N k0 K st (st.length : Int) (p.length : Int) ((List.range xs.length).map fun i : Nat => nbT p (i : Int)) = k0 ((List.range xs.length).map fun i : Nat => nbT st (i : Int)) := by
    intro q
    induction q with
    | nil =>
      intro p K k0 hK hp
      obtain ⟨k, rfl⟩ := succ_of hK
      rw [List.append_nil] at hp
      subst hp
      simp only [Zq26_l0, ilt_nf (Nat.lt_irrefl _), br_f]
    | cons e q ih =>
      intro p K k0 hK hp
      obtain ⟨k, rfl⟩ := succ_of hK
      have hpl : p.length < st.length := by rw [← hp]; simp
      obtain ⟨a, b, rfl, hab, hb⟩ := hin e (by rw [← hp]; simp)
      have hr : rdP st (p.length : Int) = ((a : Int), (b : Int)) := by rw [← hp, rdP_mid]
      have hl := nbT_len p (b : Int)
      have hl2 := nbT_len p (a : Int)
      have ha : a < xs.length := by omega
      have hs1 := set_map (n := xs.length) (v := a) (f := fun i : Nat => nbT p (i : Int)) (g := fun i : Nat => nbT p (i : Int) ++ if a = i then [(b : Int)] else []) (u := nbT p (a : Int) ++ [(b : Int)]) (by simp) (fun i _ hi => by rw [if_neg (fun e => hi e.symm), List.append_nil])
      have hs2 := set_map (n := xs.length) (v := b) (f := fun i : Nat => nbT p (i : Int) ++ if a = i then [(b : Int)] else []) (g := fun i : Nat => nbT (p ++ [((a : Int), (b : Int))]) (i : Int)) (u := nbT p (b : Int) ++ [(a : Int)]) (by rw [nbT_snoc, if_neg (show ¬ (a : Int) = (b : Int) by omega), if_pos rfl]; rfl) (fun i _ hi => by
        rw [nbT_snoc, if_neg (show ¬ (b : Int) = (i : Int) by omega)]
        by_cases hai : a = i
        · rw [if_pos (show (a : Int) = (i : Int) by omega), if_pos hai]; rfl
        · rw [if_neg (show ¬ (a : Int) = (i : Int) by omega), if_neg hai]; rfl)
      have hrb : rdL ((List.range xs.length).map fun i : Nat => nbT p (i : Int) ++ if a = i then [(b : Int)] else []) (b : Int) = nbT p (b : Int) := by
        rw [rdL_map hb, if_neg (show ¬ a = b by omega), List.append_nil]
      simp only [Zq26_l0, ilt_n hpl, br_t, inb_n hpl, chk_t, hr, inb_map ha, rdL_map ha]
      rw [room_ok (by simp; omega), chk_t, ieq_t rfl, chk_t, wrap_succ (by omega), tApp_d, hs1, inb_map hb, chk_t, hrb, room_ok (by simp; omega), chk_t, ieq_t rfl, chk_t, chk_t, tApp_d, hs2]
      have := ih (p ++ [((a : Int), (b : Int))]) k k0 (by simp at hK; omega) (by rw [List.append_assoc]; exact hp)
      rw [List.length_append, List.length_singleton] at this
      exact this
  have e0 : ((List.range xs.length).map fun i : Nat => nbT st (i : Int)) = nbL xs.length st := List.map_congr_left fun i _ => nbT_eq h
  have hlen : (nbL xs.length st).length = xs.length := by simp [nbL]
  have goB : ∀ (d n K : Nat), n + d = xs.length → d < K → Zq26_l1 N (fun o1 => some ((o1, ()), ())) K (xs.length : Int) n (nbL xs.length st) = some ((nbL xs.length st, ()), ()) := by
    intro d
    induction d with
    | zero =>
      intro n K hd hK
      obtain ⟨k, rfl⟩ := succ_of hK
      simp only [Zq26_l1, ilt_nf (show ¬ n < xs.length by omega), br_f]
    | succ d ih =>
      intro n K hd hK
      obtain ⟨k, rfl⟩ := succ_of hK
      have hn : n < xs.length := by omega
      have hs := nbS_strict (v := (n : Int)) h
      have hl := nbS_len (v := (n : Int)) h
      simp only [Zq26_l1, ilt_n hn, br_t, inb_n (show n < (nbL xs.length st).length by omega), chk_t]
      rw [nbL_rd (in_nat hn), Sort_asc (hs.imp fun hab => by omega) (by omega) hN, bind_some', wrap_succ (by omega), tSet_n]
      have : (nbL xs.length st).set n (nbS st (n : Int)) = nbL xs.length st := by
        refine List.ext_getElem (by simp) fun i h1 h2 => ?_
        by_cases hi : i = n
        · subst hi
          rw [List.getElem_set_self]
          simp [nbL]
        · rw [List.getElem_set_ne (fun e => hi e.symm)]
      simp only [this]
      exact ih (n + 1) k (by omega) (by omega)
  unfold Zq26
  simp only []
  rw [tLen_n, tLen_n, ile_t (by omega), ile_t (Int.le_refl _), fits_ok (by omega)]
  simp only [Bool.and_self, chk_t]
  rw [tRep_n, rep_map]
  have g1 := goA st [] N (fun o => Zq26_l1 N (fun o1 => some ((o1, ()), ())) N (tLen o) 0 o) (by omega) rfl
  have e1 : ((List.range xs.length).map fun i : Nat => nbT [] (i : Int)) = (List.range xs.length).map fun _ => [] := rfl
  rw [e1] at g1
  simp only [List.length_nil, Int.natCast_zero] at g1
  rw [g1, e0, tLen_n, hlen]
  exact goB xs.length 0 N (by omega) (by omega)
theorem mid_eq {i j : Nat} (h : i + j < 4611686018427387904) : IntKind.i64.wrap (shrI .u64 (IntKind.u64.wrap (IntKind.i64.wrap ((i : Int) + (j : Int)))) 1) = (((i + j) / 2 : Nat) : Int) := by
  have e : (i : Int) + (j : Int) = ((i + j : Nat) : Int) := by omega
  rw [e, wrap_ok (n := ((i + j : Nat) : Int)) (by omega) (by omega), wrap64 (by omega)]
  have e2 : shrI .u64 ((i + j : Nat) : Int) 1 = (((i + j) / 2 : Nat) : Int) := by
    show ((i + j : Nat) : Int).fdiv (2 ^ (min 1 64)) = _
    rw [Int.fdiv_eq_ediv_of_nonneg _ (by decide)]
    show ((i + j : Nat) : Int) / 2 = _
    omega
  rw [e2, wrap_ok (by omega) (by omega)]
theorem bin_eq {R : Type} {N : Nat} {xs : List (List Int)} {a : List Int} {t : Nat} {len : Int} {k0 : List (List Int) → List Int → (List Int → List Int → Option Int) → Int → Int → Option R} (hx : xs.length ≤ 1048576) (hl : ∀ x ∈ xs, x.length ≤ 1048576) (ha : a.length ≤ 1048576) (hN : 1048577 ≤ N)
    (hlo : ∀ k : Nat, k < t → k < xs.length → lexC (rdL xs (k : Int)) a < 0) (hhi : ∀ k : Nat, t ≤ k → k < xs.length → ¬ lexC (rdL xs (k : Int)) a < 0) : ∀ (d i j K : Nat), j - i ≤ d → d < K → i ≤ t → t ≤ j → j ≤ xs.length →
      Zq56_l0 N k0 K xs a (fun y0 y1 => (Zq58 N y0 y1).bind fun z => some z.1.1) len (i : Int) (j : Int) = k0 xs a (fun y0 y1 => (Zq58 N y0 y1).bind fun z => some z.1.1) len (t : Int) := by
  intro d
  induction d with
  | zero =>
    intro i j K hd hK hi hj hjx
    obtain ⟨k, rfl⟩ := succ_of hK
    have : i = t := by omega
    subst this
    simp only [Zq56_l0, ilt_nf (show ¬ i < j by omega), br_f]
  | succ d ih =>
    intro i j K hd hK hi hj hjx
    obtain ⟨k, rfl⟩ := succ_of hK
    by_cases hij : i < j
    · have hm : (i + j) / 2 < xs.length := by omega
      simp only [Zq56_l0, ilt_n hij, br_t, mid_eq (show i + j < 4611686018427387904 by omega), inb_n hm, chk_t]
      rw [Compare_lex (hl _ (by rw [rdL_n hm]; exact List.getElem_mem hm)) ha hN, bind_some', bind_some']
      simp only []
      by_cases hc : lexC (rdL xs (((i + j) / 2 : Nat) : Int)) a < 0
      · rw [ilt_t hc, br_t, wrap_succ (by omega)]
        refine ih ((i + j) / 2 + 1) j k (by omega) (by omega) ?_ hj hjx
        by_cases h : t ≤ (i + j) / 2
        · exact absurd hc (hhi _ h hm)
        · omega
      · rw [ilt_f hc, br_f]
        refine ih i ((i + j) / 2) k (by omega) (by omega) hi ?_ (by omega)
        by_cases h : (i + j) / 2 < t
        · exact absurd (hlo _ h hm) hc
        · omega
    · have : i = t := by omega
      subst this
      simp only [Zq56_l0, ilt_nf hij, br_f]
theorem idx_lt {xs : List (List Int)} {a : List Int} (h : a ∈ xs) : xs.idxOf a < xs.length := List.idxOf_lt_length_iff.2 h
theorem idx_rd {xs : List (List Int)} {a : List Int} (h : a ∈ xs) : rdL xs ((xs.idxOf a : Nat) : Int) = a := by
  rw [rdL_n (idx_lt h)]
  exact List.getElem_idxOf (idx_lt h)
theorem place_in {N : Nat} {xs : List (List Int)} {st : List (Int × Int)} {a : List Int} (hs : lexSorted xs) (hx : xs.length ≤ 1048576) (hl : ∀ x ∈ xs, x.length ≤ 1048576) (ha : a ∈ xs) (hN : 1048577 ≤ N) :
    Zq25 N (xs, st) a = some ((((xs.idxOf a : Nat) : Int), true, ()), ()) := by
  have hp := List.pairwise_iff_getElem.1 hs
  have hi := idx_lt ha
  have ht : xs[xs.idxOf a] = a := List.getElem_idxOf hi
  have hal := hl a ha
  unfold Zq25 Zq56
  simp only []
  have := bin_eq (N := N) (len := tLen xs) (t := xs.idxOf a) (k0 := fun x1 target1 cmp1 n i => (br (ilt i n) ((chk (inb x1 i) ((cmp1 (rdL x1 i) target1).bind fun v => some ((i, (ieq v 0), ()), ())))) (some ((i, false, ()), ())))) hx hl hal hN (fun k hk hkx => by
    have := hp k _ hkx hi hk
    rwa [ht, ← rdL_n hkx] at this) (fun k hk hkx hc => by
    by_cases he : k = xs.idxOf a
    · subst he
      rw [rdL_n hkx, ht, lexC_self] at hc
      omega
    · have := hp _ k hi hkx (by omega)
      rw [ht, ← rdL_n hkx] at this
      have e := lexC_anti a (rdL xs (k : Int))
      omega) xs.length 0 xs.length N (by omega) (by omega) (Nat.zero_le _) (by omega) (Nat.le_refl _)
  simp only [Int.natCast_zero] at this
  rw [tLen_n] at this ⊢
  rw [this, ilt_n hi, br_t, inb_n hi, chk_t, Compare_lex (by rw [idx_rd ha]; exact hal) hal hN, bind_some', bind_some', bind_some', idx_rd ha, lexC_self]
  rfl
theorem index_in {N : Nat} {xs : List (List Int)} {st : List (Int × Int)} {a : List Int} (hx : xs.length ≤ 1048576) (hl : ∀ x ∈ xs, x.length ≤ 1048576) (ha : a ∈ xs) (hN : 1048577 ≤ N) :
    Zq100 N (xs, st) a = some ((((xs.idxOf a : Nat) : Int), ()), ()) := by
  unfold Zq100
  simp only []
  have go : ∀ (d n K : Nat), n + d = xs.idxOf a → d < K → Zq100_l0 N (fun x1 => some ((x1, ()), ())) (fun (_ : Unit) => some (((-1), ()), ())) K a (n : Int) xs st = some ((((xs.idxOf a : Nat) : Int), ()), ()) := by
    intro d
    induction d with
    | zero =>
      intro n K hd hK
      obtain ⟨k, rfl⟩ := succ_of hK
      have : n = xs.idxOf a := by omega
      subst this
      simp only [Zq100_l0, ilt_len (idx_lt ha), br_t, inb_n (idx_lt ha), chk_t, idx_rd ha]
      rw [l1Same_eq (hl a ha) hN, bind_some', decide_eq_true rfl, br_t]
    | succ d ih =>
      intro n K hd hK
      obtain ⟨k, rfl⟩ := succ_of hK
      have hi := idx_lt ha
      have hn : n < xs.length := by omega
      have hne : ¬ rdL xs (n : Int) = a := by
        rw [rdL_n hn]
        intro e
        have := List.not_of_lt_findIdx (p := (· == a)) (xs := xs) (i := n) (by show n < xs.idxOf a; omega)
        simp [e] at this
      simp only [Zq100_l0, ilt_len hn, br_t, inb_n hn, chk_t]
      rw [l1Same_eq (hl _ (by rw [rdL_n hn]; exact List.getElem_mem hn)) hN, bind_some', decide_eq_false hne, br_f, wrap_succ (by omega)]
      exact ih (n + 1) k (by omega) (by omega)
  have hi := idx_lt ha
  exact go (xs.idxOf a) 0 N (by omega) (by omega)
noncomputable def fwdL (L : List (List Int)) (F : List Int) : Nat → Int → List Int
  | 0, _ => []
  | d + 1, x => ((nextW L F x).headD x) :: fwdL L F d ((nextW L F x).headD x)
theorem fwdL_len {L : List (List Int)} {F : List Int} : ∀ (d : Nat) (x : Int), (fwdL L F d x).length = d := by
  intro d
  induction d with
  | zero => intro x; rfl
  | succ d ih => intro x; simp [fwdL, ih]
theorem nbL_sym {n : Nat} {st : List (Int × Int)} (h : okSt n st) {y z : Int} (hy : InN n y) (hz : InN n z) (hm : z ∈ rdL (nbL n st) y) : y ∈ rdL (nbL n st) z := by
  rw [nbL_rd hy] at hm
  rw [nbL_rd hz]
  exact (mem_nbS h).2 ((mem_nbS h).1 hm).symm
theorem wl_in {L : List (List Int)} {m : Nat} {x : Int} (hl : okLists L m) (hx : InN m x) {k : Nat} {y : Int} (h : Wl L x k y) : InN m y := by
  induction h with
  | base => exact hx
  | step _ hz ih => exact (okL_row hl ih).2 _ hz
theorem next_some {n : Nat} {st : List (Int × Int)} (hn : n ≤ 1048576) (h : okSt n st) {t x : Int} (ht : InN n t) (hx : InN n x) {d : Nat} (hd : rdI (bfsD (nbL n st) n t) x = ((d + 1 : Nat) : Int)) :
    ∃ z q, nextW (nbL n st) (bfsD (nbL n st) n t) x = z :: q ∧ InN n z ∧ rdI (bfsD (nbL n st) n t) z = (d : Int) := by
  have hl := nbL_ok hn h
  obtain ⟨_, s2, s3, s4, s5, s6⟩ := bfsD_spec hl ht
  have hw := s5 x hx (by omega)
  have e1 : (rdI (bfsD (nbL n st) n t) x).toNat = d + 1 := by omega
  rw [e1] at hw
  have key : ∃ u, u ∈ nextW (nbL n st) (bfsD (nbL n st) n t) x := by
    cases hw with
    | @step _ u _ hu hz =>
      have hui := wl_in hl ht hu
      obtain ⟨_, u1, u2⟩ := s6 _ _ hu
      have hw2 := s5 u hui u1
      have := (s6 _ _ (Wl.step hw2 hz)).2.2
      refine ⟨u, List.mem_filter.2 ⟨nbL_sym h hui hx hz, decide_eq_true ?_⟩⟩
      omega
  obtain ⟨u, hu⟩ := key
  cases hq : nextW (nbL n st) (bfsD (nbL n st) n t) x with
  | nil => rw [hq] at hu; cases hu
  | cons z q =>
    have hz : z ∈ nextW (nbL n st) (bfsD (nbL n st) n t) x := by rw [hq]; exact List.mem_cons_self ..
    obtain ⟨z1, z2⟩ := List.mem_filter.1 hz
    have z2 := of_decide_eq_true z2
    exact ⟨z, q, rfl, (okL_row hl hx).2 _ z1, by omega⟩
theorem fwd_in {n : Nat} {st : List (Int × Int)} (hn : n ≤ 1048576) (h : okSt n st) {t : Int} (ht : InN n t) : ∀ (d : Nat) (x : Int), InN n x → rdI (bfsD (nbL n st) n t) x = (d : Int) → ∀ z ∈ fwdL (nbL n st) (bfsD (nbL n st) n t) d x, InN n z := by
  intro d
  induction d with
  | zero => intro x _ _ z hz; cases hz
  | succ d ih =>
    intro x hx hd z hz
    obtain ⟨u, q, h1, h2, h3⟩ := next_some hn h ht hx hd
    unfold fwdL at hz
    rw [h1] at hz
    rcases List.mem_cons.1 hz with rfl | hz
    · exact h2
    · exact ih _ h2 h3 z hz
theorem firstWay_in {R : Type} {N : Nat} {L : List (List Int)} {F : List Int} {x j y : Int} {q o : List Int} {kk : Int → Int → List (List Int) → List Int → List Int → Option R} {m : Nat} (hl : okLists L m) (hF : F.length = m) (hx : InN m x) (hb : 0 < rdI F x ∧ rdI F x < 1048576) (hm : m ≤ 1048576)
    (hq : nextW L F x = y :: q) (hN : 1048577 ≤ N) : Zq24_l0_0 N kk N x j x (tLen (rdL L x)) 0 L F o = kk y j L F o := by
  obtain ⟨hr1, hr2⟩ := okL_row hl hx
  have go : ∀ (r n K : Nat), n + r = (rdL L x).length → r < K → (((rdL L x).drop n).filter fun y => decide (rdI F y = rdI F x - 1)) = y :: q →
      Zq24_l0_0 N kk K x j x (tLen (rdL L x)) (n : Int) L F o = kk y j L F o := by
    intro r
    induction r with
    | zero =>
      intro n K hr hK hf
      rw [List.drop_of_length_le (by omega)] at hf
      cases hf
    | succ r ih =>
      intro n K hr hK hf
      obtain ⟨k, rfl⟩ := succ_of hK
      have hn : n < (rdL L x).length := by omega
      rw [drop_cons hn, List.filter_cons] at hf
      have hz := hr2 _ (List.getElem_mem hn)
      simp only [Zq24_l0_0, ilt_len hn, br_t, inb_n hn, chk_t, rdI_n hn]
      rw [inb_i hz.1 (by have := hz.2; omega), chk_t, inb_i hx.1 (by have := hx.2; omega), chk_t, wrap_ok (n := rdI F x - 1) (by omega) (by omega)]
      by_cases hc : rdI F (rdL L x)[n] = rdI F x - 1
      · rw [if_pos (by simp [hc])] at hf
        injection hf with h1 h2
        rw [ieq_t hc, br_t, h1]
      · rw [if_neg (by simp [hc])] at hf
        rw [ieq_f hc, br_f, wrap_succ (by omega)]
        exact ih (n + 1) k (by omega) (by omega) hf
  exact go (rdL L x).length 0 N (by omega) (by omega) hq
theorem wlk2_in {R : Type} {N : Nat} {L : List (List Int)} {F : List Int} {x j y : Int} {q o : List Int} {kk : Int → Int → Int → List (List Int) → List Int → List Int → Option R} {m : Nat} (hl : okLists L m) (hF : F.length = m) (hx : InN m x) (hb : 0 < rdI F x ∧ rdI F x < 1048576) (hm : m ≤ 1048576)
    (hq : nextW L F x = y :: q) (hN : 1048577 ≤ N) : ∃ v : Nat, v < (rdL L x).length ∧ rdI (rdL L x) (v : Int) = y ∧ Zq108_l0_0 N kk N x j 0 L F o = kk x j (v : Int) L F o := by
  obtain ⟨hr1, hr2⟩ := okL_row hl hx
  have go : ∀ (r n K : Nat), n + r = (rdL L x).length → r < K → (((rdL L x).drop n).filter fun y => decide (rdI F y = rdI F x - 1)) = y :: q →
      ∃ v : Nat, v < (rdL L x).length ∧ rdI (rdL L x) (v : Int) = y ∧ Zq108_l0_0 N kk K x j (n : Int) L F o = kk x j (v : Int) L F o := by
    intro r
    induction r with
    | zero =>
      intro n K hr hK hf
      rw [List.drop_of_length_le (by omega)] at hf
      cases hf
    | succ r ih =>
      intro n K hr hK hf
      obtain ⟨k, rfl⟩ := succ_of hK
      have hn : n < (rdL L x).length := by omega
      rw [drop_cons hn, List.filter_cons] at hf
      have hz := hr2 _ (List.getElem_mem hn)
      have hL : L.length = m := hl.1
      simp only [Zq108_l0_0, inb_n hn, rdI_n hn]
      rw [inb_i hx.1 (by have := hx.2; omega), chk_t, chk_t, inb_i hz.1 (by have := hz.2; omega), chk_t, inb_i hx.1 (by have := hx.2; omega), chk_t, wrap_ok (n := rdI F x - 1) (by omega) (by omega)]
      by_cases hc : rdI F (rdL L x)[n] = rdI F x - 1
      · rw [if_pos (by simp [hc])] at hf
        injection hf with h1 h2
        rw [ine_f hc, br_f]
        exact ⟨n, hn, by rw [rdI_n hn, h1], rfl⟩
      · rw [if_neg (by simp [hc])] at hf
        rw [ine_t hc, br_t, wrap_succ (by omega)]
        exact ih (n + 1) k (by omega) (by omega) hf
  exact go (rdL L x).length 0 N (by omega) (by omega) hq
noncomputable def wayI (xs : List (List Int)) (st : List (Int × Int)) (i j : Nat) : List Int :=
  if rdI (bfsD (nbL xs.length st) xs.length (j : Int)) (i : Int) < 0 then [] else (i : Int) :: fwdL (nbL xs.length st) (bfsD (nbL xs.length st) xs.length (j : Int)) (rdI (bfsD (nbL xs.length st) xs.length (j : Int)) (i : Int)).toNat (i : Int)
theorem wayI_in {xs : List (List Int)} {st : List (Int × Int)} {i j : Nat} (hn : xs.length ≤ 1048576) (h : okSt xs.length st) (hi : i < xs.length) (hj : j < xs.length) : ∀ z ∈ wayI xs st i j, InN xs.length z := by
  intro z hz
  unfold wayI at hz
  split at hz
  · cases hz
  · rename_i h0
    rcases List.mem_cons.1 hz with rfl | hz
    · exact in_nat hi
    · exact fwd_in hn h (in_nat hj) _ _ (in_nat hi) (by omega) z hz
theorem wayI_len {xs : List (List Int)} {st : List (Int × Int)} {i j : Nat} (hn : xs.length ≤ 1048576) (h : okSt xs.length st) (hi : i < xs.length) (hj : j < xs.length) : (wayI xs st i j).length ≤ xs.length := by
  have hl := nbL_ok hn h
  have := (bfsD_spec hl (in_nat hj)).2.2.1 (i : Int) (in_nat hi)
  unfold wayI
  split
  · simp
  · rw [List.length_cons, fwdL_len]
    omega
theorem firstWay_eq {N : Nat} {xs : List (List Int)} {st : List (Int × Int)} {i j : Nat} (hx : xs.length < 1024) (hs : st.length ≤ 1048576) (h : okSt xs.length st) (hi : i < xs.length) (hj : j < xs.length) (hN : 1048577 ≤ N) :
    Zq24 N (xs, st) (i : Int) (j : Int) = some ((wayI xs st i j, decide (wayI xs st i j ≠ []), ()), ()) := by
  have hl := nbL_ok (n := xs.length) (by omega) h
  obtain ⟨s1, s2, s3, s4, s5, s6⟩ := bfsD_spec hl (in_nat hj)
  unfold Zq24 wayI
  simp only []
  rw [sroads_eq hx hs h hN, bind_some']
  simp only []
  rw [spread_eq hl (by omega) (in_nat hj) hN, bind_some']
  simp only []
  rw [inb_n (by omega), chk_t]
  by_cases h0 : rdI (bfsD (nbL xs.length st) xs.length (j : Int)) (i : Int) < 0
  · rw [ilt_t h0, br_t, if_pos h0]
    rfl
  · rw [ilt_f h0, br_f, if_neg h0]
    have go : ∀ (d K : Nat) (x : Int) (o : List Int), d < K → InN xs.length x → rdI (bfsD (nbL xs.length st) xs.length (j : Int)) x = (d : Int) → o.length + d ≤ 1048576 →
        Zq24_l0 N (fun o => some ((o, true, ()), ())) K x (j : Int) (nbL xs.length st) (bfsD (nbL xs.length st) xs.length (j : Int)) o = some ((o ++ fwdL (nbL xs.length st) (bfsD (nbL xs.length st) xs.length (j : Int)) d x, true, ()), ()) := by
      intro d
      induction d with
      | zero =>
        intro K x o hK hxi hd ho
        obtain ⟨k, rfl⟩ := succ_of hK
        have := s4 x hxi hd
        simp only [Zq24_l0, ine_f this, br_f, fwdL, List.append_nil]
      | succ d ih =>
        intro K x o hK hxi hd ho
        obtain ⟨k, rfl⟩ := succ_of hK
        have hne : x ≠ (j : Int) := by rintro rfl; omega
        obtain ⟨z, q, h1, h2, h3⟩ := next_some (by omega) h (in_nat hj) hxi hd
        have h4 := s3 x hxi
        have h5 : (nbL xs.length st).length = xs.length := hl.1
        simp only [Zq24_l0, ine_t hne, br_t]
        rw [inb_i hxi.1 (by have := hxi.2; omega), chk_t, firstWay_in hl s1 hxi (by omega) (by omega) h1 hN, room_ok (by simp; omega), chk_t, tApp_d, ih k z _ (by omega) h2 h3 (by simp; omega), fwdL, h1, List.append_assoc]
        rfl
    have hlt := s3 (i : Int) (in_nat hi)
    have := go (rdI (bfsD (nbL xs.length st) xs.length (j : Int)) (i : Int)).toNat N (i : Int) [(i : Int)] (by omega) (in_nat hi) (by omega) (by simp; omega)
    rw [this]
    rfl
theorem l2Walk_eq {N : Nat} {xs : List (List Int)} {st : List (Int × Int)} {i j : Nat} (hx : xs.length < 1024) (hs : st.length ≤ 1048576) (h : okSt xs.length st) (hi : i < xs.length) (hj : j < xs.length) (hN : 1048577 ≤ N) :
    Zq108 N (xs, st) (i : Int) (j : Int) = some ((wayI xs st i j, ()), ()) := by
  have hl := nbL_ok (n := xs.length) (by omega) h
  obtain ⟨s1, s2, s3, s4, s5, s6⟩ := bfsD_spec hl (in_nat hj)
  unfold Zq108 wayI
  simp only []
  rw [l2Lists_eq (by omega) hs h hN, bind_some']
  simp only []
  rw [l2Spread_bfs hl (by omega) (in_nat hj) hN, bind_some']
  simp only []
  rw [inb_n (by omega), chk_t]
  by_cases h0 : rdI (bfsD (nbL xs.length st) xs.length (j : Int)) (i : Int) < 0
  · rw [ilt_t h0, br_t, if_pos h0]
  · rw [ilt_f h0, br_f, if_neg h0]
    have go : ∀ (d K : Nat) (x : Int) (o : List Int), d < K → InN xs.length x → rdI (bfsD (nbL xs.length st) xs.length (j : Int)) x = (d : Int) → o.length + d ≤ 1048576 →
        Zq108_l0 N (fun o => some ((o, ()), ())) K x (j : Int) (nbL xs.length st) (bfsD (nbL xs.length st) xs.length (j : Int)) o = some ((o ++ fwdL (nbL xs.length st) (bfsD (nbL xs.length st) xs.length (j : Int)) d x, ()), ()) := by
      intro d
      induction d with
      | zero =>
        intro K x o hK hxi hd ho
        obtain ⟨k, rfl⟩ := succ_of hK
        have := s4 x hxi hd
        simp only [Zq108_l0, ine_f this, br_f, fwdL, List.append_nil]
      | succ d ih =>
        intro K x o hK hxi hd ho
        obtain ⟨k, rfl⟩ := succ_of hK
        have hne : x ≠ (j : Int) := by rintro rfl; omega
        obtain ⟨z, q, h1, h2, h3⟩ := next_some (by omega) h (in_nat hj) hxi hd
        have h4 := s3 x hxi
        have h5 : (nbL xs.length st).length = xs.length := hl.1
        simp only [Zq108_l0, ine_t hne, br_t]
        obtain ⟨v, v1, v2, v3⟩ := wlk2_in (R := (List Int × Unit) × Unit) (o := o) (j := (j : Int)) (kk := fun i2 j2 kv o3 o4 o5 => (chk (inb o3 i2) (chk (inb (rdL o3 i2) kv) (chk (room o5 [(rdI (rdL o3 i2) kv)]) (Zq108_l0 N (fun o => some ((o, ()), ())) k (rdI (rdL o3 i2) kv) j2 o3 o4 (tApp o5 [(rdI (rdL o3 i2) kv)])))))) hl s1 hxi (by omega) (by omega) h1 hN
        rw [v3, inb_i hxi.1 (by have := hxi.2; omega), chk_t, inb_n v1, chk_t, v2, room_ok (by simp; omega), chk_t, tApp_d, ih k z _ (by omega) h2 h3 (by simp; omega), fwdL, h1, List.append_assoc]
        rfl
    have hlt := s3 (i : Int) (in_nat hi)
    have := go (rdI (bfsD (nbL xs.length st) xs.length (j : Int)) (i : Int)).toNat N (i : Int) [(i : Int)] (by omega) (in_nat hi) (by omega) (by simp; omega)
    rw [this]
    rfl
noncomputable def wayS (xs : List (List Int)) (st : List (Int × Int)) (a b : List Int) : List (List Int) := (wayI xs st (xs.idxOf a) (xs.idxOf b)).map (rdL xs)
theorem wayS_len {xs : List (List Int)} {st : List (Int × Int)} {a b : List Int} (hn : xs.length ≤ 1048576) (h : okSt xs.length st) (ha : a ∈ xs) (hb : b ∈ xs) : (wayS xs st a b).length ≤ xs.length := by
  unfold wayS
  rw [List.length_map]
  exact wayI_len hn h (idx_lt ha) (idx_lt hb)
theorem wayS_in {xs : List (List Int)} {st : List (Int × Int)} {a b : List Int} (hn : xs.length ≤ 1048576) (h : okSt xs.length st) (ha : a ∈ xs) (hb : b ∈ xs) : ∀ s ∈ wayS xs st a b, s ∈ xs := by
  intro s hs
  obtain ⟨z, hz, rfl⟩ := List.mem_map.1 hs
  obtain ⟨k, hk, rfl⟩ := nat_of (wayI_in hn h (idx_lt ha) (idx_lt hb) z hz)
  rw [rdL_n hk]
  exact List.getElem_mem hk
theorem walk_eq {N : Nat} {xs : List (List Int)} {st : List (Int × Int)} {a b : List Int} (hs : lexSorted xs) (hl : ∀ x ∈ xs, x.length ≤ 1048576) (hx : xs.length < 1024) (hst : st.length ≤ 1048576) (h : okSt xs.length st) (ha : a ∈ xs) (hb : b ∈ xs) (hN : 1048577 ≤ N) :
    Zq27 N (xs, st) a b = some ((wayS xs st a b, decide (wayS xs st a b ≠ []), ()), ()) := by
  have hne : decide (wayS xs st a b ≠ []) = decide (wayI xs st (xs.idxOf a) (xs.idxOf b) ≠ []) := by
    unfold wayS
    cases wayI xs st (xs.idxOf a) (xs.idxOf b) <;> simp
  have hin := wayI_in (by omega) h (idx_lt ha) (idx_lt hb)
  have hlen := wayI_len (by omega) h (idx_lt ha) (idx_lt hb)
  unfold Zq27
  rw [place_in hs (by omega) hl ha hN, place_in hs (by omega) hl hb hN, bind_some', bind_some']
  simp only [Bool.not_true, br_f]
  rw [firstWay_eq hx hst h (idx_lt ha) (idx_lt hb) hN, bind_some', hne]
  simp only []
  generalize decide (wayI xs st (xs.idxOf a) (xs.idxOf b) ≠ []) = ok
  unfold wayS
  generalize wayI xs st (xs.idxOf a) (xs.idxOf b) = w at hin hlen
  have go : ∀ (d n K : Nat) (o : List (List Int)), n + d = w.length → d < K → o.length ≤ n →
      Zq27_l0 N (fun ok o => some ((o, ok, ()), ())) K ok (tLen w) (n : Int) xs st o w = some ((o ++ (w.drop n).map (rdL xs), ok, ()), ()) := by
    intro d
    induction d with
    | zero =>
      intro n K o hd hK ho
      obtain ⟨k, rfl⟩ := succ_of hK
      simp only [Zq27_l0, ilt_lenf (show ¬ n < w.length by omega), br_f]
      rw [List.drop_of_length_le (by omega)]
      simp
    | succ d ih =>
      intro n K o hd hK ho
      obtain ⟨k, rfl⟩ := succ_of hK
      have hn : n < w.length := by omega
      have hz := hin _ (List.getElem_mem hn)
      obtain ⟨z, hz1, hz2⟩ := nat_of hz
      simp only [Zq27_l0, ilt_len hn, br_t, inb_n hn, chk_t, rdI_n hn]
      rw [hz2, inb_n hz1, chk_t, Clone_eq (hl _ (by rw [rdL_n hz1]; exact List.getElem_mem hz1)), bind_some', room_ok (by simp; omega), chk_t, wrap_succ (by omega), tApp_d, ih (n + 1) k _ (by omega) (by omega) (by simp; omega), drop_cons hn, List.map_cons, hz2, List.append_assoc]
      rfl
  have := go w.length 0 N [] (by omega) (by omega) (Nat.zero_le _)
  simpa using this
theorem l3Walk_eq {N : Nat} {xs : List (List Int)} {st : List (Int × Int)} {a b : List Int} (hl : ∀ x ∈ xs, x.length ≤ 1048576) (hx : xs.length < 1024) (hst : st.length ≤ 1048576) (h : okSt xs.length st) (ha : a ∈ xs) (hb : b ∈ xs) (hN : 1048577 ≤ N) :
    Zq110 N (xs, st) a b = some ((wayS xs st a b, ()), ()) := by
  have hin := wayI_in (by omega) h (idx_lt ha) (idx_lt hb)
  have hlen := wayI_len (by omega) h (idx_lt ha) (idx_lt hb)
  unfold Zq110
  rw [index_in (by omega) hl ha hN, index_in (by omega) hl hb hN, bind_some', bind_some']
  simp only []
  rw [ilt_f (by omega), br_f, ilt_f (by omega), br_f, l2Walk_eq hx hst h (idx_lt ha) (idx_lt hb) hN, bind_some']
  simp only []
  unfold wayS
  generalize wayI xs st (xs.idxOf a) (xs.idxOf b) = w at hin hlen
  have go : ∀ (d n K : Nat) (o : List (List Int)), n + d = w.length → d < K → o.length ≤ n →
      Zq110_l0 N (fun o => some ((o, ()), ())) K (n : Int) xs st o w = some ((o ++ (w.drop n).map (rdL xs), ()), ()) := by
    intro d
    induction d with
    | zero =>
      intro n K o hd hK ho
      obtain ⟨k, rfl⟩ := succ_of hK
      simp only [Zq110_l0, ilt_lenf (show ¬ n < w.length by omega), br_f]
      rw [List.drop_of_length_le (by omega)]
      simp
    | succ d ih =>
      intro n K o hd hK ho
      obtain ⟨k, rfl⟩ := succ_of hK
      have hn : n < w.length := by omega
      have hz := hin _ (List.getElem_mem hn)
      obtain ⟨z, hz1, hz2⟩ := nat_of hz
      simp only [Zq110_l0, ilt_len hn, br_t, inb_n hn, chk_t, rdI_n hn]
      rw [hz2, inb_n hz1, chk_t, l1Own_eq (hl _ (by rw [rdL_n hz1]; exact List.getElem_mem hz1)), bind_some', room_ok (by simp; omega), chk_t, wrap_succ (by omega), tApp_d, ih (n + 1) k _ (by omega) (by omega) (by simp; omega), drop_cons hn, List.map_cons, hz2, List.append_assoc]
      rfl
  have := go w.length 0 N [] (by omega) (by omega) (Nat.zero_le _)
  simpa using this
end Go.Proofs.YtkffaahlpdlkoaaGreat
