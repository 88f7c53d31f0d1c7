/- Statements on data alone. -/
import Derived.Test.YtfilchmabmfmaaaPvPure
import Derived.Test.YtfilchmabmfmaaaCountTreesFb
set_option linter.all false
set_option linter.all false
namespace Go.Proofs.Ytfilchmabmfmaaa
open Go Go.PV Classical
theorem all_rdP {xs : List (Int × Int)} {p : Int × Int → Prop} : (∀ x ∈ xs, p x) ↔ ∀ i : Nat, i < xs.length → p (rdP xs i) := by
  constructor
  · intro h i hi
    rw [rdP_n hi]
    exact h _ (List.getElem_mem hi)
  · intro h x hx
    obtain ⟨i, hi, rfl⟩ := List.mem_iff_getElem.1 hx
    have := h i hi
    rwa [rdP_n hi] at this
theorem l1In_eq (N : Nat) (x a b : Int) : Zq23 N x a b = some ((decide (a ≤ x ∧ x ≤ b), ()), ()) := by
  unfold Zq23
  rw [br_ite, ile_d, ile_d]
  by_cases h : a ≤ x <;> by_cases h' : x ≤ b <;> simp [h, h']
theorem between_eq (N : Nat) (n low high : Int) : Zq7 N n low high = some ((decide (low ≤ n ∧ n ≤ high), ()), ()) := by
  unfold Zq7
  rw [br_ite, ile_d, ile_d]
  by_cases h : low ≤ n <;> by_cases h' : n ≤ high <;> simp [h, h']
theorem szIntA2S_eq (N : Nat) {xs : List (Int × Int)} {left : Int} (hl : 0 ≤ left ∧ left ≤ 1048576) (hx : xs.length ≤ 9223372036854775807) : Zq16 N xs left = some ((if (xs.length : Int) ≤ left then left - xs.length else -1, ()), ()) := by
  unfold Zq16
  rw [tLen_n, wrap_ok (by omega) (by omega)]
  by_cases h : (xs.length : Int) ≤ left
  · rw [ilt_f (by omega), br_f, if_pos h]
  · rw [ilt_t (by omega), br_t, if_neg h]
theorem szGraph_eq {N : Nat} {g : Int × List (Int × Int)} (hx : g.2.length ≤ 9223372036854775807) :
    ∃ r : Int, Zq15 N g 1048576 = some ((r, ()), ()) ∧ (0 ≤ r → g.2.length ≤ 1048576) := by
  unfold Zq15
  rw [szIntA2S_eq N (by omega) hx, bind_some']
  by_cases h : (g.2.length : Int) ≤ 1048576
  · simp only [if_pos h]
    rw [ilt_f (by omega), br_f]
    exact ⟨_, rfl, fun _ => by omega⟩
  · simp only [if_neg h]
    rw [ilt_t (by omega), br_t]
    exact ⟨-1, rfl, fun h => by omega⟩
theorem toIntA2_eq (N : Nat) (a : Int × Int) : Zq18 N a = some ((a, ()), ()) := rfl
theorem toIntA2S_eq {N : Nat} {xs : List (Int × Int)} (hx : xs.length ≤ 1048576) (hN : 1048577 ≤ N) : Zq19 N xs = some ((xs, ()), ()) := by
  have go : ∀ (d n : Nat) (o : List (Int × Int)) (K : Nat), n + d = xs.length → d < K → o.length = xs.length →
      Zq19_l0 N (fun o => some ((o, ()), ())) K xs n o = some ((o.take n ++ xs.drop n, ()), ()) := by
    intro d
    induction d with
    | zero =>
      intro n o K hd hK ho
      obtain ⟨k, rfl⟩ := succ_of hK
      have hn : ¬ n < xs.length := by omega
      simp only [Zq19_l0, ilt_lenf hn, br_f]
      rw [List.take_of_length_le (by omega), List.drop_of_length_le (by omega), List.append_nil]
    | succ d ih =>
      intro n o K hd hK ho
      obtain ⟨k, rfl⟩ := succ_of hK
      have hn : n < xs.length := by omega
      have hno : n < o.length := by omega
      simp only [Zq19_l0, ilt_len hn, inb_n hn, inb_n hno, br_t, chk_t, toIntA2_eq, bind_some']
      rw [wrap_succ (by omega), tSet_n, rdP_n hn, ih (n + 1) _ k (by omega) (by omega) (by simpa using ho)]
      congr 3
      obtain ⟨y, r, e1, e2, e3⟩ := drop_split hn
      rw [e1, e2, e3, List.take_add_one, List.getElem?_set_self (by omega), List.take_set_of_le (Nat.le_refl n)]
      simp
  unfold Zq19
  simp only [tLen_n, ile_t (show (0 : Int) ≤ (xs.length : Int) by omega), ile_t (Int.le_refl _), fits_ok (show xs.length ≤ 1099511627776 by omega), Bool.and_self, chk_t]
  have := go xs.length 0 (tRep (xs.length : Int) (0, 0)) N (by omega) (by omega) (by simp [tRep])
  simp only [Int.natCast_zero, List.take_zero, List.drop_zero, List.nil_append] at this
  exact this
theorem toGraph_eq {N : Nat} {g : Int × List (Int × Int)} (hx : g.2.length ≤ 1048576) (hN : 1048577 ≤ N) : Zq17 N g = some ((g, ()), ()) := by
  unfold Zq17
  rw [toIntA2S_eq hx hN, bind_some']
theorem eqIntA2_eq (N : Nat) (a b : Int × Int) : Zq13 N a b = some ((decide (a = b), ()), ()) := by
  obtain ⟨a1, a2⟩ := a
  obtain ⟨b1, b2⟩ := b
  unfold Zq13 Zq13_l0
  by_cases h1 : a1 = b1
  · rw [ine_f h1, br_f]
    by_cases h2 : a2 = b2
    · rw [ine_f h2, br_f]; simp [h1, h2]
    · rw [ine_t h2, br_t]; simp [h2]
  · rw [ine_t h1, br_t]; simp [h1]
theorem eqIntA2S_eq {N : Nat} {a b : List (Int × Int)} (hx : a.length ≤ 1048576) (hN : 1048577 ≤ N) : Zq14 N a b = some ((decide (a = b), ()), ()) := by
  unfold Zq14
  simp only [tLen_n]
  by_cases hl : a.length = b.length
  · rw [ine_f (by omega), br_f]
    have := loop_all_if (P := a = b) (m := a.length) (L := fun K i => Zq14_l0 N (fun x => some ((x, ()), ())) (fun (_ : Unit) => some ((true, ()), ())) K a b i) (fun i => rdP a i = rdP b i) ⟨fun h i _ => by rw [h], fun h => List.ext_getElem hl fun i h1 h2 => by have := h i h1; rwa [rdP_n h1, rdP_n h2] at this⟩ (kt := some ((true, ()), ())) (kf := some ((false, ()), ())) (fun K n hn => ?_) (fun K n hn hp => ?_) (fun K n hn hp => ?_) (show a.length < N by omega)
    · rw [show ((0 : Nat) : Int) = 0 from rfl] at this
      rw [this]
      by_cases h : a = b <;> simp [h]
    · simp only [Zq14_l0, ilt_lenf hn, br_f]
    · simp only [Zq14_l0, ilt_len hn, inb_n hn, inb_n (show n < b.length by omega), br_t, chk_t, eqIntA2_eq, bind_some']
      rw [decide_eq_true hp, Bool.not_true, br_f, wrap_succ (by omega)]
    · simp only [Zq14_l0, ilt_len hn, inb_n hn, inb_n (show n < b.length by omega), br_t, chk_t, eqIntA2_eq, bind_some']
      rw [decide_eq_false hp, Bool.not_false, br_t]
  · rw [ine_t (by omega), br_t]
    have : a ≠ b := fun h => hl (by rw [h])
    simp [this]
theorem eqGraph_eq {N : Nat} {a b : Int × List (Int × Int)} (hx : a.2.length ≤ 1048576) (hN : 1048577 ≤ N) : Zq12 N a b = some ((decide (a = b), ()), ()) := by
  obtain ⟨a1, a2⟩ := a
  obtain ⟨b1, b2⟩ := b
  unfold Zq12
  by_cases h1 : a1 = b1
  · rw [ine_f h1, br_f, eqIntA2S_eq hx hN, bind_some', br_ite]
    by_cases h2 : a2 = b2 <;> simp [h1, h2]
  · rw [ine_t h1, br_t]
    simp [h1]
def edgeLt (a b : Int × Int) : Prop := a.1 < b.1 ∨ a.1 = b.1 ∧ a.2 < b.2
def pairAt (m : Int) (es : List (Int × Int)) (i : Nat) : Prop := (0 ≤ (rdP es i).1 ∧ (rdP es i).1 < (rdP es i).2 ∧ (rdP es i).2 < m) ∧ (0 < i → edgeLt (rdP es ((i - 1 : Nat) : Int)) (rdP es i))
def goodG (g : Int × List (Int × Int)) : Prop := (0 ≤ g.1 ∧ g.1 ≤ 8) ∧ ∀ i, i < g.2.length → pairAt g.1 g.2 i
theorem goodG_edges {g : Int × List (Int × Int)} (h : goodG g) : ∀ e ∈ g.2, 0 ≤ e.1 ∧ e.1 < e.2 ∧ e.2 < g.1 :=
  all_rdP.2 fun i hi => (h.2 i hi).1
theorem l2Edge_eq (N : Nat) (a b : Int × Int) : Zq24 N a b = some ((decide (edgeLt a b), ()), ()) := by
  unfold Zq24 edgeLt
  by_cases h1 : a.1 < b.1
  · rw [ilt_t h1, br_t]; simp [h1]
  · rw [ilt_f h1, br_f]
    by_cases h2 : a.1 = b.1
    · rw [ieq_t h2, br_t, ilt_d]; simp [h2]
    · rw [ieq_f h2, br_f]; simp [h1, h2]
theorem compare_eq (N : Nat) (x y : Int) : Zq0 N x y = some ((if x < y then -1 else if y < x then 1 else 0, ()), ()) := by
  unfold Zq0 Zq2
  simp only [bind_some', ine_f (rfl : x = x), ine_f (rfl : y = y), br_f]
  by_cases h1 : x < y
  · rw [ilt_t h1, br_t, if_pos h1]
  · rw [ilt_f h1, br_f, if_neg h1]
    by_cases h2 : y < x
    · rw [ilt_t h2, br_t, if_pos h2]
    · rw [ilt_f h2, br_f, if_neg h2]
theorem Or2_eq {N : Nat} (hN : 1048577 ≤ N) (a b : Int) : Zq1 N [a, b] = some ((if a = 0 then b else a, ()), ()) := by
  obtain ⟨k, rfl⟩ : ∃ k, N = k + 3 := ⟨N - 3, by omega⟩
  unfold Zq1
  rw [show tLen [a, b] = 2 from rfl]
  simp only [Zq1_l0]
  rw [show inb [a, b] 0 = true from rfl, show rdI [a, b] 0 = a from rfl, show IntKind.i64.wrap (0 + 1) = 1 from rfl, show inb [a, b] 1 = true from rfl, show rdI [a, b] 1 = b from rfl, show IntKind.i64.wrap (1 + 1) = 2 from rfl, show ilt 0 2 = true from rfl, show ilt 1 2 = true from rfl, show ilt 2 2 = false from rfl, chk_t, chk_t, br_t, br_t, br_f]
  by_cases h : a = 0
  · rw [ine_f h, br_f, if_pos h]
    by_cases h' : b = 0
    · rw [ine_f h', br_f, h']
    · rw [ine_t h', br_t]
  · rw [ine_t h, br_t, if_neg h]
theorem comparePairs_eq {N : Nat} (hN : 1048577 ≤ N) (a b : Int × Int) : ∃ r : Int, Zq8 N a b = some ((r, ()), ()) ∧ (r < 0 ↔ edgeLt a b) ∧ (r = 0 ↔ a = b) := by
  obtain ⟨a1, a2⟩ := a
  obtain ⟨b1, b2⟩ := b
  unfold Zq8 edgeLt
  simp only [compare_eq, bind_some', Or2_eq hN]
  refine ⟨_, rfl, ?_, ?_⟩
  · by_cases h1 : a1 < b1
    · simp [h1]
    · by_cases h2 : b1 < a1
      · simp [h1, h2]; omega
      · have : a1 = b1 := by omega
        simp only [if_neg h1, if_neg h2, if_pos, this, Int.lt_irrefl, false_or, true_and]
        by_cases h3 : a2 < b2
        · simp [h3]
        · by_cases h4 : b2 < a2
          · simp [h3, h4]
          · simp [h3, h4]
  · rw [Prod.mk.injEq]
    by_cases h1 : a1 < b1
    · simp [h1]; omega
    · by_cases h2 : b1 < a1
      · simp [h1, h2]; omega
      · have : a1 = b1 := by omega
        simp only [if_neg h1, if_neg h2, if_pos, this, true_and]
        by_cases h3 : a2 < b2
        · simp [h3]; omega
        · by_cases h4 : b2 < a2
          · simp [h3, h4]; omega
          · simp [h3, h4]; omega
theorem l2Pairs_big {N : Nat} {m : Int} {es : List (Int × Int)} (hm : 0 ≤ m ∧ m ≤ 1048576) (hx : es.length ≤ 1048576) (hN : 1048577 ≤ N) : Zq28 N es m = some ((decide (∀ i, i < es.length → pairAt m es i), ()), ()) := by
  unfold Zq28
  have := loop_all_if (P := ∀ i, i < es.length → pairAt m es i) (m := es.length) (L := fun K i => Zq28_l0 N (fun x => some ((x, ()), ())) (fun (_ : Unit) => some ((true, ()), ())) K es m i) (pairAt m es) Iff.rfl (kt := some ((true, ()), ())) (kf := some ((false, ()), ())) (fun K n hn => ?_) (fun K n hn hp => ?_) (fun K n hn hp => ?_) (show es.length < N by omega)
  · rw [show ((0 : Nat) : Int) = 0 from rfl] at this
    rw [this]
    by_cases h : ∀ i, i < es.length → pairAt m es i
    · rw [if_pos h, decide_eq_true h]
    · rw [if_neg h, decide_eq_false h]
  · simp only [Zq28_l0, ilt_lenf hn, br_f]
  · simp only [Zq28_l0, ilt_len hn, inb_n hn, br_t, chk_t, l1In_eq, l2Edge_eq, bind_some', wrap_ok (show -9223372036854775808 ≤ m - 1 by omega) (show m - 1 < 9223372036854775808 by omega)]
    obtain ⟨⟨p1, p2, p3⟩, p4⟩ := hp
    rw [decide_eq_true (show 0 ≤ (rdP es n).1 ∧ (rdP es n).1 ≤ m - 1 by omega), decide_eq_true (show 0 ≤ (rdP es n).2 ∧ (rdP es n).2 ≤ m - 1 by omega), Bool.not_true, br_f, br_f, ile_f (by omega), br_f]
    by_cases h0 : 0 < n
    · rw [ilt_0 h0, br_t, wrap_pred (by omega) h0, inb_n (by omega), chk_t, decide_eq_true (p4 h0), Bool.not_true, br_f, wrap_succ (by omega)]
    · rw [ilt_0n h0, br_f, wrap_succ (by omega)]
  · simp only [Zq28_l0, ilt_len hn, inb_n hn, br_t, chk_t, l1In_eq, l2Edge_eq, bind_some', wrap_ok (show -9223372036854775808 ≤ m - 1 by omega) (show m - 1 < 9223372036854775808 by omega)]
    by_cases q1 : 0 ≤ (rdP es n).1 ∧ (rdP es n).1 ≤ m - 1
    · rw [decide_eq_true q1, Bool.not_true, br_f]
      by_cases q2 : 0 ≤ (rdP es n).2 ∧ (rdP es n).2 ≤ m - 1
      · rw [decide_eq_true q2, Bool.not_true, br_f]
        by_cases q3 : (rdP es n).2 ≤ (rdP es n).1
        · rw [ile_t q3, br_t]
        · rw [ile_f q3, br_f]
          have h0 : 0 < n := by
            rcases Nat.eq_zero_or_pos n with h0 | h0
            · exact absurd ⟨⟨by omega, by omega, by omega⟩, fun h' => by omega⟩ hp
            · exact h0
          have h4 : ¬ edgeLt (rdP es ((n - 1 : Nat) : Int)) (rdP es n) := fun h' => hp ⟨⟨by omega, by omega, by omega⟩, fun _ => h'⟩
          rw [ilt_0 h0, br_t, wrap_pred (by omega) h0, inb_n (by omega), chk_t, decide_eq_false h4, Bool.not_false, br_t]
      · rw [decide_eq_false q2, Bool.not_false, br_t]
    · rw [decide_eq_false q1, Bool.not_false, br_t]
theorem l2Pairs_eq {N : Nat} {m : Int} {es : List (Int × Int)} (hm : 0 ≤ m ∧ m ≤ 8) (hx : es.length ≤ 1048576) (hN : 1048577 ≤ N) : Zq28 N es m = some ((decide (∀ i, i < es.length → pairAt m es i), ()), ()) := l2Pairs_big ⟨hm.1, by omega⟩ hx hN
theorem isPairs_eq {N : Nat} {m : Int} {es : List (Int × Int)} (hm : 0 ≤ m ∧ m ≤ 8) (hx : es.length ≤ 1048576) (hN : 1048577 ≤ N) : Zq9 N es m = some ((decide (∀ i, i < es.length → pairAt m es i), ()), ()) := by
  unfold Zq9
  have := loop_all_if (P := ∀ i, i < es.length → pairAt m es i) (m := es.length) (L := fun K i => Zq9_l0 N (fun x => some ((x, ()), ())) (fun (_ : Unit) => some ((true, ()), ())) K es m es (es.length : Int) i) (pairAt m es) Iff.rfl (kt := some ((true, ()), ())) (kf := some ((false, ()), ())) (fun K n hn => ?_) (fun K n hn hp => ?_) (fun K n hn hp => ?_) (show es.length < N by omega)
  · rw [show ((0 : Nat) : Int) = 0 from rfl] at this
    rw [tLen_n, this]
    by_cases h : ∀ i, i < es.length → pairAt m es i
    · rw [if_pos h, decide_eq_true h]
    · rw [if_neg h, decide_eq_false h]
  · simp only [Zq9_l0, ilt_nf hn, br_f]
  · simp only [Zq9_l0, ilt_n hn, inb_n hn, br_t, chk_t]
    obtain ⟨⟨p1, p2, p3⟩, p4⟩ := hp
    rw [ilt_f (by omega), br_f, ile_f (by omega), br_f, ile_f (by omega), br_f]
    by_cases h0 : 0 < n
    · rw [ilt_0 h0, br_t, wrap_pred (by omega) h0, inb_n (by omega), chk_t]
      obtain ⟨r, r1, r2, _⟩ := comparePairs_eq hN (rdP es ((n - 1 : Nat) : Int)) ((rdP es n).1, (rdP es n).2)
      have := r2.2 (p4 h0)
      rw [r1]
      simp only [bind_some']
      rw [ile_f (by omega), br_f, wrap_succ (by omega)]
    · rw [ilt_0n h0, br_f, wrap_succ (by omega)]
  · simp only [Zq9_l0, ilt_n hn, inb_n hn, br_t, chk_t]
    by_cases q1 : (rdP es n).1 < 0
    · rw [ilt_t q1, br_t]
    · rw [ilt_f q1, br_f]
      by_cases q2 : (rdP es n).2 ≤ (rdP es n).1
      · rw [ile_t q2, br_t]
      · rw [ile_f q2, br_f]
        by_cases q3 : m ≤ (rdP es n).2
        · rw [ile_t q3, br_t]
        · rw [ile_f q3, br_f]
          have h0 : 0 < n := by
            rcases Nat.eq_zero_or_pos n with h0 | h0
            · exact absurd ⟨⟨by omega, by omega, by omega⟩, fun h' => by omega⟩ hp
            · exact h0
          have h4 : ¬ edgeLt (rdP es ((n - 1 : Nat) : Int)) (rdP es n) := fun h' => hp ⟨⟨by omega, by omega, by omega⟩, fun _ => h'⟩
          rw [ilt_0 h0, br_t, wrap_pred (by omega) h0, inb_n (by omega), chk_t]
          obtain ⟨r, r1, r2, _⟩ := comparePairs_eq hN (rdP es ((n - 1 : Nat) : Int)) ((rdP es n).1, (rdP es n).2)
          have : ¬ r < 0 := fun h => h4 (r2.1 h)
          rw [r1]
          simp only [bind_some']
          rw [ile_t (by omega), br_t]
theorem l2Good_eq {N : Nat} {g : Int × List (Int × Int)} (hx : g.2.length ≤ 1048576) (hN : 1048577 ≤ N) : Zq25 N g = some ((decide (goodG g), ()), ()) := by
  unfold Zq25
  rw [l1In_eq, bind_some']
  by_cases h : 0 ≤ g.1 ∧ g.1 ≤ 8
  · rw [decide_eq_true h, br_t, l2Pairs_eq h hx hN, bind_some']
    congr 3
    exact decide_eq_decide.2 ⟨fun h' => ⟨h, h'⟩, fun h' => h'.2⟩
  · rw [decide_eq_false h, br_f, decide_eq_false (show ¬ goodG g from fun h' => h h'.1)]
theorem IsGraph_eq {N : Nat} {g : Int × List (Int × Int)} (hx : g.2.length ≤ 1048576) (hN : 1048577 ≤ N) : Zq6 N g = some ((decide (goodG g), ()), ()) := by
  unfold Zq6
  rw [between_eq, bind_some']
  by_cases h : 0 ≤ g.1 ∧ g.1 ≤ 8
  · rw [decide_eq_true h, br_t, isPairs_eq h hx hN, bind_some']
    congr 3
    exact decide_eq_decide.2 ⟨fun h' => ⟨h, h'⟩, fun h' => h'.2⟩
  · rw [decide_eq_false h, br_f, decide_eq_false (show ¬ goodG g from fun h' => h h'.1)]
def nearG (es : List (Int × Int)) (a b : Int) : Prop := (a, b) ∈ es ∨ (b, a) ∈ es
theorem l2Near_eq {N : Nat} {g : Int × List (Int × Int)} {a b : Int} (hx : g.2.length ≤ 1048576) (hN : 1048577 ≤ N) : Zq26 N g a b = some ((decide (nearG g.2 a b), ()), ()) := by
  obtain ⟨m, es⟩ := g
  simp only at hx
  unfold Zq26
  have := loop_all_if (P := ∀ e ∈ es, ¬ (e = (a, b) ∨ e = (b, a))) (m := es.length) (L := fun K i => Zq26_l0 N (fun x => some ((x, ()), ())) (fun (_ : Unit) => some ((false, ()), ())) K a b i m es) (fun i => ¬ (rdP es i = (a, b) ∨ rdP es i = (b, a))) all_rdP (kt := some ((false, ()), ())) (kf := some ((true, ()), ())) (fun K n hn => ?_) (fun K n hn hp => ?_) (fun K n hn hp => ?_) (show es.length < N by omega)
  · rw [show ((0 : Nat) : Int) = 0 from rfl] at this
    rw [this]
    by_cases h : nearG es a b
    · rw [if_neg (fun h' => by
        rcases h with h | h
        · exact h' _ h (Or.inl rfl)
        · exact h' _ h (Or.inr rfl)), decide_eq_true h]
    · rw [if_pos (fun e he h' => by
        rcases h' with h' | h'
        · exact h (Or.inl (h' ▸ he))
        · exact h (Or.inr (h' ▸ he))), decide_eq_false h]
  · simp only [Zq26_l0, ilt_lenf hn, br_f]
  · simp only [Zq26_l0, ilt_len hn, inb_n hn, br_t, chk_t]
    rw [wrap_succ (by omega)]
    rw [show rdP es n = ((rdP es n).1, (rdP es n).2) from rfl, Prod.mk.injEq, Prod.mk.injEq] at hp
    by_cases q1 : (rdP es n).1 = a
    · rw [ieq_t q1, br_t, ieq_f (fun h => hp (Or.inl ⟨q1, h⟩)), br_f]
      by_cases q2 : (rdP es n).1 = b
      · rw [ieq_t q2, br_t, ieq_f (fun h => hp (Or.inr ⟨q2, h⟩)), br_f]
      · rw [ieq_f q2, br_f]
    · rw [ieq_f q1, br_f]
      by_cases q2 : (rdP es n).1 = b
      · rw [ieq_t q2, br_t, ieq_f (fun h => hp (Or.inr ⟨q2, h⟩)), br_f]
      · rw [ieq_f q2, br_f]
  · simp only [Zq26_l0, ilt_len hn, inb_n hn, br_t, chk_t]
    rw [Decidable.not_not, show rdP es n = ((rdP es n).1, (rdP es n).2) from rfl, Prod.mk.injEq, Prod.mk.injEq] at hp
    by_cases q0 : (rdP es n).1 = a ∧ (rdP es n).2 = b
    · rw [ieq_t q0.1, br_t, ieq_t q0.2, br_t]
    · have hp' := hp.resolve_left q0
      rw [ieq_t hp'.1, ieq_t hp'.2, br_t, br_t]
      by_cases q1 : (rdP es n).1 = a
      · rw [ieq_t q1, br_t, ieq_f (fun h => q0 ⟨q1, h⟩), br_f]
      · rw [ieq_f q1, br_f]
theorem ContainsP_eq {N : Nat} {xs : List (Int × Int)} {v : Int × Int} (hx : xs.length ≤ 1048576) (hN : 1048577 ≤ N) : Zq20 N xs v = some ((decide (v ∈ xs), ()), ()) := by
  obtain ⟨a, b⟩ := v
  have go : ∀ (d n : Nat) (K : Nat), n + d = xs.length → d < K → ∃ i : Int, Zq21_l0 N (fun x => some ((x, ()), ())) (fun (_ : Unit) => some ((-1, ()), ())) K xs (xs.length : Int) n a b = some ((i, ()), ()) ∧ decide (0 ≤ i) = decide ((a, b) ∈ xs.drop n) := by
    intro d
    induction d with
    | zero =>
      intro n K hd hK
      obtain ⟨k, rfl⟩ := succ_of hK
      have hn : ¬ n < xs.length := by omega
      simp only [Zq21_l0, ilt_nf hn, br_f]
      rw [List.drop_of_length_le (by omega)]
      exact ⟨-1, rfl, rfl⟩
    | succ d ih =>
      intro n K hd hK
      obtain ⟨k, rfl⟩ := succ_of hK
      have hn : n < xs.length := by omega
      simp only [Zq21_l0, ilt_n hn, br_t, inb_n hn, chk_t]
      obtain ⟨⟨y1, y2⟩, r, e1, e2, e3⟩ := drop_split hn
      rw [rdP_n hn, e1, e2]
      simp only
      by_cases h : a = y1 ∧ b = y2
      · rw [ieq_t h.1, ieq_t h.2, Bool.and_self, br_t]
        exact ⟨_, rfl, by simp [h.1, h.2]⟩
      · have hq : (ieq a y1 && ieq b y2) = false := by
          rw [ieq_d, ieq_d, ← Bool.decide_and]
          exact decide_eq_false h
        rw [hq, br_f, wrap_succ (by omega)]
        obtain ⟨i, h1, h2⟩ := ih (n + 1) k (by omega) (by omega)
        refine ⟨i, h1, ?_⟩
        rw [h2, e3]
        simp [h]
  unfold Zq20 Zq21
  obtain ⟨i, h1, h2⟩ := go xs.length 0 N (by omega) (by omega)
  simp only [Int.natCast_zero, List.drop_zero] at h1 h2
  rw [tLen_n]
  simp only [h1, bind_some']
  rw [ile_d, h2]
theorem Graph_has_eq {N : Nat} {g : Int × List (Int × Int)} {a b : Int} (hed : ∀ e ∈ g.2, e.1 < e.2) (hx : g.2.length ≤ 1048576) (hN : 1048577 ≤ N) : Zq4 N g a b = some ((decide (nearG g.2 a b), ()), ()) := by
  unfold Zq4 Zq10
  simp only [bind_some', ContainsP_eq hx hN]
  congr 3
  refine decide_eq_decide.2 ⟨fun h => ?_, fun h => ?_⟩
  · by_cases h1 : b < a
    · rw [if_pos h1, if_neg (by omega)] at h
      exact Or.inr h
    · rw [if_neg h1] at h
      by_cases h2 : b > a
      · rw [if_pos h2] at h
        exact Or.inl h
      · have : a = b := by omega
        rw [if_neg h2] at h
        exact Or.inl (by rw [← this]; exact h)
  · rcases h with h | h
    · have := hed _ h
      simp only at this
      rw [if_neg (by omega), if_pos (by omega)]
      exact h
    · have := hed _ h
      simp only at this
      rw [if_pos (by omega), if_neg (by omega)]
      exact h
theorem iter_app {p : Nat → Prop} [DecidablePred p] : ∀ (d n : Nat) (o : List Int), iter (fun n o => if p n then o ++ [(n : Int)] else o) d n o = o ++ ((List.range' n d).filter fun i => decide (p i)).map (fun i : Nat => (i : Int)) := by
  intro d
  induction d with
  | zero => intro n o; simp [iter]
  | succ d ih =>
    intro n o
    unfold iter
    rw [ih, List.range'_succ]
    by_cases h : p n <;> simp [h]
noncomputable def nbr (m : Nat) (es : List (Int × Int)) (x : Int) : List Int := ((List.range' 0 m).filter fun i : Nat => decide (nearG es x (i : Int))).map (fun i : Nat => (i : Int))
theorem mem_nbr {m : Nat} {es : List (Int × Int)} {x y : Int} : y ∈ nbr m es x ↔ ∃ i : Nat, i < m ∧ nearG es x i ∧ y = i := by
  unfold nbr
  rw [List.mem_map]
  constructor
  · rintro ⟨i, hi, rfl⟩
    obtain ⟨h1, h2⟩ := List.mem_filter.1 hi
    exact ⟨i, by simpa using List.mem_range'_1.1 h1, of_decide_eq_true h2, rfl⟩
  · rintro ⟨i, h1, h2, rfl⟩
    exact ⟨i, List.mem_filter.2 ⟨List.mem_range'_1.2 (by omega), decide_eq_true h2⟩, rfl⟩
theorem near_ne {g : Int × List (Int × Int)} (hg : goodG g) {a : Int} : ¬ nearG g.2 a a := by
  rintro (h | h)
  · have := goodG_edges hg _ h
    simp only at this
    omega
  · have := goodG_edges hg _ h
    simp only at this
    omega
theorem neighbors_eq {N : Nat} {m : Nat} {es : List (Int × Int)} {x : Int} (hg : goodG ((m : Int), es)) (hx : es.length ≤ 1048576) (hN : 1048577 ≤ N) : Zq5 N ((m : Int), es) x = some ((nbr m es x, ()), ()) := by
  have hed : ∀ e ∈ es, e.1 < e.2 := fun e he => (goodG_edges hg e he).2.1
  have hm := hg.1
  simp only at hm
  unfold Zq5
  refine (loop_iter (L := fun K n o => Zq5_l0 N (fun o => some ((o, ()), ())) K x (m : Int) n (m : Int) es o) (k := fun o => some ((o, ()), ())) (Inv := fun n o => o.length ≤ n) (step := fun n o => if nearG es x (n : Int) then o ++ [(n : Int)] else o) (fun K n s hn _ => ?_) (fun K n s hn hs => ?_) (fun n s hn h => ?_) (s := []) (m := m) (K := N) (by omega) (Nat.zero_le _)).trans ?_
  · simp only [Zq5_l0, ilt_nf hn, br_f]
  · simp only [Zq5_l0, ilt_n hn, br_t, Graph_has_eq (g := ((m : Int), es)) hed hx hN, bind_some']
    rw [wrap_succ (by omega), room_ok (by simp; omega), chk_t]
    by_cases h : nearG es x (n : Int)
    · have hne : (n : Int) ≠ x := fun e => near_ne hg (a := x) (by rw [e] at h; exact h)
      rw [ine_t hne, br_t, decide_eq_true h, br_t, if_pos h]
      rfl
    · rw [if_neg h, decide_eq_false h, br_f, br_same]
  · by_cases hc : nearG es x (n : Int)
    · rw [if_pos hc]; simp; omega
    · rw [if_neg hc]; omega
  · rw [iter_app]
    rfl
theorem rdI_set {cs : List Int} {x : Nat} (hx : x < cs.length) (v y : Int) (hy : 0 ≤ y) : rdI (tSet cs (x : Int) v) y = if y = x then v else rdI cs y := by
  obtain ⟨n, rfl⟩ : ∃ n : Nat, y = n := ⟨y.toNat, by omega⟩
  rw [tSet_n]
  unfold rdI
  rw [Int.toNat_natCast, List.getD, List.getD, List.getElem?_set]
  by_cases h : x = n
  · subst h
    simp [hx]
  · have : ¬ ((n : Int) = (x : Int)) := by omega
    simp [h, this]
theorem l2Neighbors_eq {N : Nat} {m : Nat} {es : List (Int × Int)} {x : Int} (hm : m ≤ 8) (hx : es.length ≤ 1048576) (hN : 1048577 ≤ N) : Zq27 N ((m : Int), es) x = some ((nbr m es x, ()), ()) := by
  unfold Zq27
  refine (loop_iter (L := fun K n o => Zq27_l0 N (fun o => some ((o, ()), ())) K x n (m : Int) es o) (k := fun o => some ((o, ()), ())) (Inv := fun n o => o.length ≤ n) (step := fun n o => if nearG es x (n : Int) then o ++ [(n : Int)] else o) (fun K n s hn _ => ?_) (fun K n s hn hs => ?_) (fun n s hn h => ?_) (s := []) (m := m) (K := N) (by omega) (Nat.zero_le _)).trans ?_
  · simp only [Zq27_l0, ilt_nf hn, br_f]
  · simp only [Zq27_l0, ilt_n hn, br_t, l2Near_eq (g := ((m : Int), es)) hx hN, bind_some']
    rw [wrap_succ (by omega), room_ok (by simp; omega), chk_t]
    by_cases h : nearG es x (n : Int)
    · rw [decide_eq_true h, br_t, if_pos h]
      rfl
    · rw [if_neg h, decide_eq_false h, br_f]
  · by_cases hc : nearG es x (n : Int)
    · rw [if_pos hc]; simp; omega
    · rw [if_neg hc]; omega
  · rw [iter_app]
    rfl
theorem nodup_le : ∀ {a b : List Int}, a.Nodup → (∀ x ∈ a, x ∈ b) → a.length ≤ b.length := by
  intro a
  induction a with
  | nil => intro b _ _; exact Nat.zero_le _
  | cons x a ih =>
    intro b hn hs
    obtain ⟨h1, h2⟩ := List.nodup_cons.1 hn
    have hx := hs x (List.mem_cons_self ..)
    have := ih (b := b.erase x) h2 fun y hy => (List.mem_erase_of_ne (fun (e : y = x) => h1 (e ▸ hy))).2 (hs y (List.mem_cons_of_mem _ hy))
    rw [List.length_erase_of_mem hx] at this
    have := List.length_pos_of_mem hx
    rw [List.length_cons]
    omega
theorem l7Some_eq {N : Nat} {g : Int × List (Int × Int)} (hx : g.2.length ≤ 1048576) (hN : 1048577 ≤ N) : Zq30 N g = some ((decide (goodG g ∧ 0 < g.1), ()), ()) := by
  unfold Zq30
  rw [l2Good_eq hx hN]
  simp only [bind_some']
  by_cases h : goodG g
  · rw [decide_eq_true h, br_t, ilt_d]
    simp [h]
  · rw [decide_eq_false h, br_f]
    simp [h]
theorem br_same {R : Type} (b : Bool) (x : Option R) : br b x x = x := by cases b <;> rfl
def sm (f : Nat → Int) : Nat → Nat → Int
  | _, 0 => 0
  | lo, d + 1 => f lo + sm f (lo + 1) d
theorem sm_congr {f g : Nat → Int} : ∀ (d lo : Nat), (∀ t, lo ≤ t → t < lo + d → f t = g t) → sm f lo d = sm g lo d := by
  intro d
  induction d with
  | zero => intro lo _; rfl
  | succ d ih =>
    intro lo h
    simp only [sm]
    rw [h lo (Nat.le_refl _) (by omega), ih (lo + 1) fun t h1 h2 => h t (by omega) (by omega)]
theorem sm_nonpos {f : Nat → Int} : ∀ (d lo : Nat), (∀ t, lo ≤ t → t < lo + d → f t ≤ 0) → sm f lo d ≤ 0 := by
  intro d
  induction d with
  | zero => intro lo _; exact Int.le_refl _
  | succ d ih =>
    intro lo h
    have h1 := h lo (Nat.le_refl _) (by omega)
    have h2 := ih (lo + 1) fun t h1 h2 => h t (by omega) (by omega)
    simp only [sm]
    omega
theorem sm_one {f : Nat → Int} {i : Nat} : ∀ (d lo : Nat), lo ≤ i → i < lo + d → (∀ t, lo ≤ t → t < lo + d → t ≠ i → f t ≤ 0) → sm f lo d ≤ f i := by
  intro d
  induction d with
  | zero => intro lo h1 h2; omega
  | succ d ih =>
    intro lo h1 h2 h
    simp only [sm]
    by_cases e : lo = i
    · subst e
      have := sm_nonpos (f := f) d (lo + 1) fun t q1 q2 => h t (by omega) (by omega) (by omega)
      omega
    · have a1 := h lo (Nat.le_refl _) (by omega) e
      have a2 := ih (lo + 1) (by omega) (by omega) fun t q1 q2 q3 => h t (by omega) (by omega) q3
      omega
theorem sm_two {f : Nat → Int} {i j : Nat} (hij : i ≠ j) : ∀ (d lo : Nat), lo ≤ i → i < lo + d → lo ≤ j → j < lo + d → (∀ t, lo ≤ t → t < lo + d → t ≠ i → f t ≤ 0) → sm f lo d ≤ f i + f j := by
  intro d
  induction d with
  | zero => intro lo h1 h2; omega
  | succ d ih =>
    intro lo h1 h2 h3 h4 h
    simp only [sm]
    by_cases e : lo = i
    · subst e
      have := sm_one (f := f) (i := j) d (lo + 1) (by omega) (by omega) fun t q1 q2 _ => h t (by omega) (by omega) (by omega)
      omega
    · by_cases e2 : lo = j
      · subst e2
        have := sm_one (f := f) (i := i) d (lo + 1) (by omega) (by omega) fun t q1 q2 q3 => h t (by omega) (by omega) q3
        omega
      · have a1 := h lo (Nat.le_refl _) (by omega) e
        have a2 := ih (lo + 1) (by omega) (by omega) (by omega) (by omega) fun t q1 q2 q3 => h t (by omega) (by omega) q3
        omega
theorem sm_lin {f g : Nat → Int} (p c : Int) : ∀ (d lo : Nat), sm (fun t => f t * p - c * g t) lo d = p * sm f lo d - c * sm g lo d := by
  intro d
  induction d with
  | zero => intro lo; simp [sm]
  | succ d ih =>
    intro lo
    simp only [sm]
    rw [ih, Int.mul_add, Int.mul_add, Int.mul_comm (f lo) p]
    omega
theorem tdiv_up {N q : Int} (hq : 0 < q) (hN : N ≤ 0) : N ≤ q * N.tdiv q ∧ N.tdiv q ≤ 0 := by
  obtain ⟨M, rfl⟩ : ∃ M : Int, N = -M := ⟨-N, by omega⟩
  have hM : 0 ≤ M := by omega
  rw [Int.neg_tdiv, Int.tdiv_eq_ediv_of_nonneg hM]
  have h1 := Int.mul_ediv_add_emod M q
  have h2 := Int.emod_nonneg M (show q ≠ 0 by omega)
  have h3 : 0 ≤ M / q := Int.ediv_nonneg hM (by omega)
  have h4 : q * -(M / q) = -(q * (M / q)) := by rw [Int.mul_neg]
  omega
theorem tdiv_dn {N q : Int} (hq : 0 < q) (hN : 0 ≤ N) : N - (q - 1) ≤ q * N.tdiv q ∧ q * N.tdiv q ≤ N ∧ 0 ≤ N.tdiv q := by
  rw [Int.tdiv_eq_ediv_of_nonneg hN]
  have h1 := Int.mul_ediv_add_emod N q
  have h2 := Int.emod_nonneg N (show q ≠ 0 by omega)
  have h3 := Int.emod_lt_of_pos N hq
  have h4 : 0 ≤ N / q := Int.ediv_nonneg hN (by omega)
  omega
theorem sm_tdiv {f : Nat → Int} {q : Int} {i : Nat} (hq : 0 < q) : ∀ (d lo : Nat), (∀ t, lo ≤ t → t < lo + d → t ≠ i → f t ≤ 0) → sm f lo d - (if lo ≤ i ∧ i < lo + d then q - 1 else 0) ≤ q * sm (fun t => (f t).tdiv q) lo d := by
  intro d
  induction d with
  | zero =>
    intro lo _
    simp only [sm]
    rw [if_neg (by omega)]
    omega
  | succ d ih =>
    intro lo h
    have h2 := ih (lo + 1) fun t q1 q2 q3 => h t (by omega) (by omega) q3
    simp only [sm]
    rw [Int.mul_add]
    by_cases e : lo = i
    · subst e
      rw [if_neg (by omega)] at h2
      rw [if_pos (by omega)]
      by_cases h0 : 0 ≤ f lo
      · have := (tdiv_dn hq h0).1
        omega
      · have := (tdiv_up hq (show f lo ≤ 0 by omega)).1
        omega
    · have := (tdiv_up hq (h lo (Nat.le_refl _) (by omega) e)).1
      by_cases q1 : lo + 1 ≤ i ∧ i < lo + 1 + d
      · rw [if_pos q1] at h2
        rw [if_pos (by omega)]
        omega
      · rw [if_neg q1] at h2
        rw [if_neg (by omega)]
        omega
def stp (A : Nat → Nat → Int) (q : Int) (k i j : Nat) : Int := (A i j * A k k - A i k * A k j).tdiv q
structure Bar (n k : Nat) (A : Nat → Nat → Int) (q : Int) : Prop where
  q1 : 1 ≤ q
  q2 : q ≤ ((7 ^ k : Nat) : Int)
  sym : ∀ i j, k ≤ i → i < n → k ≤ j → j < n → A i j = A j i
  off : ∀ i j, k ≤ i → i < n → k ≤ j → j < n → i ≠ j → A i j ≤ 0
  row : ∀ i, k ≤ i → i < n → 0 ≤ sm (A i) k (n - k)
  dia : ∀ i, k ≤ i → i < n → A i i ≤ 7 * q
theorem bar_diag {n k : Nat} {A : Nat → Nat → Int} {q : Int} (h : Bar n k A q) {i : Nat} (hi : k ≤ i) (hn : i < n) : 0 ≤ A i i := by
  have h1 := h.row i hi hn
  have h2 := sm_one (f := A i) (i := i) (n - k) k hi (by omega) fun t q1 q2 q3 => h.off i t hi hn q1 (by omega) (by omega)
  omega
theorem bar_outw {n k : Nat} {A : Nat → Nat → Int} {q : Int} (h : Bar n k A q) {i j : Nat} (hi : k ≤ i) (hn : i < n) (hj : k ≤ j) (hjn : j < n) (hij : i ≠ j) : - A i i ≤ A i j := by
  have h1 := h.row i hi hn
  have h2 := sm_two (f := A i) hij (n - k) k hi (by omega) hj (by omega) fun t q1 q2 q3 => h.off i t hi hn q1 (by omega) (by omega)
  omega
theorem bar_small {n k : Nat} {A : Nat → Nat → Int} {q : Int} (h : Bar n k A q) (hn7 : n ≤ 7) {i j : Nat} (hi : k ≤ i) (hn : i < n) (hj : k ≤ j) (hjn : j < n) : -823543 ≤ A i j ∧ A i j ≤ 823543 := by
  have hp : 7 ^ k ≤ 7 ^ 6 := Nat.pow_le_pow_right (by omega) (by omega)
  have h1 := h.q2
  have h2 := h.dia i hi hn
  have h3 := bar_diag h hi hn
  by_cases e : i = j
  · subst e; omega
  · have h4 := bar_outw h hi hn hj hjn e
    have h5 := h.off i j hi hn hj hjn e
    omega
theorem bar_zero {n k : Nat} {A : Nat → Nat → Int} {q : Int} (h : Bar n k A q) (hk : k < n) (h0 : A k k = 0) {i : Nat} (hi : k ≤ i) (hn : i < n) : A i k = 0 := by
  by_cases e : i = k
  · rw [e]; exact h0
  · have h1 := bar_outw h (Nat.le_refl k) hk hi hn (Ne.symm e)
    have h2 := h.off k i (Nat.le_refl k) hk hi hn (Ne.symm e)
    rw [h.sym i k hi hn (Nat.le_refl k) hk]
    omega
theorem bar_step {n k : Nat} {A A' : Nat → Nat → Int} {q : Int} (h : Bar n k A q) (hk : k < n) (h0 : A k k ≠ 0) (hA : ∀ i j, k < i → i < n → k < j → j < n → A' i j = stp A q k i j) : Bar n (k + 1) A' (A k k) := by
  have hq := h.q1
  have hp : 0 < A k k := by have := bar_diag h (Nat.le_refl k) hk; omega
  have hq0 : 0 < q := by omega
  have num : ∀ i j, k < i → i < n → k < j → j < n → i ≠ j → A i j * A k k - A i k * A k j ≤ 0 := fun i j h1 h2 h3 h4 h5 => by
    have a1 := h.off i j (by omega) h2 (by omega) h4 h5
    have a2 := h.off i k (by omega) h2 (Nat.le_refl k) hk (by omega)
    have a3 := h.off k j (Nat.le_refl k) hk (by omega) h4 (by omega)
    have b1 : A i j * A k k ≤ 0 := Int.mul_nonpos_of_nonpos_of_nonneg a1 (by omega)
    have b2 : 0 ≤ A i k * A k j := Int.mul_nonneg_of_nonpos_of_nonpos a2 a3
    omega
  refine ⟨by omega, ?_, fun i j h1 h2 h3 h4 => ?_, fun i j h1 h2 h3 h4 h5 => ?_, fun i h1 h2 => ?_, fun i h1 h2 => ?_⟩
  · have := h.dia k (Nat.le_refl k) hk
    have := h.q2
    rw [Nat.pow_succ]
    omega
  · rw [hA i j (by omega) h2 (by omega) h4, hA j i (by omega) h4 (by omega) h2]
    unfold stp
    rw [h.sym i j (by omega) h2 (by omega) h4, h.sym i k (by omega) h2 (Nat.le_refl k) hk, h.sym k j (Nat.le_refl k) hk (by omega) h4, Int.mul_comm (A k i) (A j k)]
  · rw [hA i j (by omega) h2 (by omega) h4]
    exact (tdiv_up hq0 (num i j (by omega) h2 (by omega) h4 h5)).2
  · have e : sm (A' i) (k + 1) (n - (k + 1)) = sm (fun t => (A i t * A k k - A i k * A k t).tdiv q) (k + 1) (n - (k + 1)) := sm_congr _ _ fun t q1 q2 => hA i t (by omega) h2 (by omega) (by omega)
    rw [e]
    have h3 := sm_tdiv (f := fun t => A i t * A k k - A i k * A k t) (i := i) hq0 (n - (k + 1)) (k + 1) fun t q1 q2 q3 => num i t (by omega) h2 (by omega) (by omega) (by omega)
    rw [if_pos (by omega), sm_lin] at h3
    have r1 := h.row i (by omega) h2
    have r2 := h.row k (Nat.le_refl k) hk
    have en : n - k = (n - (k + 1)) + 1 := by omega
    rw [en] at r1 r2
    simp only [sm] at r1 r2
    have a2 := h.off i k (by omega) h2 (Nat.le_refl k) hk (by omega)
    have b1 : 0 ≤ A k k * (A i k + sm (A i) (k + 1) (n - (k + 1))) := Int.mul_nonneg (by omega) r1
    have b2 : 0 ≤ (- A i k) * (A k k + sm (A k) (k + 1) (n - (k + 1))) := Int.mul_nonneg (by omega) r2
    rw [Int.mul_add] at b1 b2
    have c1 : A k k * A i k = A i k * A k k := Int.mul_comm ..
    have c2 : -A i k * A k k = -(A i k * A k k) := Int.neg_mul ..
    have c3 : -A i k * sm (A k) (k + 1) (n - (k + 1)) = -(A i k * sm (A k) (k + 1) (n - (k + 1))) := Int.neg_mul ..
    refine Int.not_lt.1 fun hneg => ?_
    have : q * sm (fun t => (A i t * A k k - A i k * A k t).tdiv q) (k + 1) (n - (k + 1)) ≤ q * (-1) := Int.mul_le_mul_of_nonneg_left (by omega) (by omega)
    have hfun : (fun t => A i t * A k k - A i k * A k t) = fun t => A i t * A k k - A i k * A k t := rfl
    have hs : sm (fun t => A i t) (k + 1) (n - (k + 1)) = sm (A i) (k + 1) (n - (k + 1)) := rfl
    have hs2 : sm (fun t => A k t) (k + 1) (n - (k + 1)) = sm (A k) (k + 1) (n - (k + 1)) := rfl
    rw [hs, hs2] at h3
    omega
  · rw [hA i i (by omega) h2 (by omega) h2]
    unfold stp
    have d1 := h.dia i (by omega) h2
    have b1 : A i i * A k k ≤ 7 * q * A k k := Int.mul_le_mul_of_nonneg_right d1 (by omega)
    have b2 : 0 ≤ A i k * A k i := by
      rw [h.sym k i (Nat.le_refl k) hk (by omega) h2]
      have a2 := h.off i k (by omega) h2 (Nat.le_refl k) hk (by omega)
      exact Int.mul_nonneg_of_nonpos_of_nonpos a2 a2
    by_cases hN : 0 ≤ A i i * A k k - A i k * A k i
    · have h3 := (tdiv_dn hq0 hN).2.1
      refine Int.not_lt.1 fun hlt => ?_
      have h4 : q * (7 * A k k + 1) ≤ q * (A i i * A k k - A i k * A k i).tdiv q := Int.mul_le_mul_of_nonneg_left (by omega) (by omega)
      have h5 : q * (7 * A k k + 1) = 7 * q * A k k + q := by
        rw [Int.mul_add, Int.mul_one, ← Int.mul_assoc, Int.mul_comm q 7]
      omega
    · have := (tdiv_up hq0 (show A i i * A k k - A i k * A k i ≤ 0 by omega)).2
      omega
def ImpM (n : Nat) (o : List Int) (A : Nat → Nat → Int) : Prop := o.length = 64 ∧ ∀ i j, i < n → j < n → rdI o ((i * 8 + j : Nat) : Int) = A i j
def SpcM (n : Nat) (rows : List (List Int)) (A : Nat → Nat → Int) : Prop := rows.length = n ∧ (∀ i, i < n → (rdL rows (i : Int)).length = n) ∧ ∀ i j, i < n → j < n → rdI (rdL rows (i : Int)) (j : Int) = A i j
def upM (A : Nat → Nat → Int) (i j : Nat) (v : Int) : Nat → Nat → Int := fun a b => if a = i ∧ b = j then v else A a b
theorem impM_set {n : Nat} {o : List Int} {A : Nat → Nat → Int} {i j : Nat} {v : Int} (hn : n ≤ 7) (h : ImpM n o A) (hi : i < n) (hj : j < n) : ImpM n (tSet o ((i * 8 + j : Nat) : Int) v) (upM A i j v) := by
  obtain ⟨h1, h2⟩ := h
  refine ⟨by simp [tSet, h1], fun a b ha hb => ?_⟩
  rw [rdI_set (by omega) v _ (Int.natCast_nonneg _), h2 a b ha hb]
  unfold upM
  by_cases e : a = i ∧ b = j
  · rw [if_pos e, if_pos (by obtain ⟨rfl, rfl⟩ := e; rfl)]
  · rw [if_neg e, if_neg (by omega)]
theorem rdL_put {rows : List (List Int)} {i a : Nat} (hi : i < rows.length) (ha : a < rows.length) (r : List Int) : rdL (tSet rows (i : Int) r) (a : Int) = if a = i then r else rdL rows (a : Int) := by
  rw [tSet_n, rdL_n (by simpa using ha), List.getElem_set, rdL_n ha]
  by_cases e : a = i
  · rw [if_pos e, if_pos e.symm]
  · rw [if_neg e, if_neg fun q => e q.symm]
theorem spcM_set {n : Nat} {rows : List (List Int)} {A : Nat → Nat → Int} {i j : Nat} {v : Int} (h : SpcM n rows A) (hi : i < n) (hj : j < n) : SpcM n (tSet rows (i : Int) (tSet (rdL rows (i : Int)) (j : Int) v)) (upM A i j v) := by
  obtain ⟨h1, h2, h3⟩ := h
  have hl := h2 i hi
  refine ⟨by simp [tSet, h1], fun a ha => ?_, fun a b ha hb => ?_⟩
  · rw [rdL_put (by omega) (by omega)]
    by_cases e : a = i
    · rw [if_pos e]; simp [tSet, hl]
    · rw [if_neg e]; exact h2 a ha
  · rw [rdL_put (by omega) (by omega)]
    unfold upM
    by_cases e : a = i
    · subst e
      rw [if_pos rfl, rdI_set (by omega) v _ (Int.natCast_nonneg _), h3 a b ha hb]
      by_cases e2 : b = j
      · rw [if_pos (by omega), if_pos ⟨rfl, e2⟩]
      · rw [if_neg (by omega), if_neg fun q => e2 q.2]
    · rw [if_neg e, if_neg fun q => e q.1]
      exact h3 a b ha hb
theorem impM_congr {n : Nat} {o : List Int} {A B : Nat → Nat → Int} (h : ImpM n o A) (e : ∀ a b, a < n → b < n → A a b = B a b) : ImpM n o B := ⟨h.1, fun a b ha hb => (h.2 a b ha hb).trans (e a b ha hb)⟩
theorem spcM_congr {n : Nat} {o : List (List Int)} {A B : Nat → Nat → Int} (h : SpcM n o A) (e : ∀ a b, a < n → b < n → A a b = B a b) : SpcM n o B := ⟨h.1, h.2.1, fun a b ha hb => (h.2.2 a b ha hb).trans (e a b ha hb)⟩
theorem mul_small {x y : Int} (hx : -823543 ≤ x ∧ x ≤ 823543) (hy : -823543 ≤ y ∧ y ≤ 823543) : -678223072849 ≤ x * y ∧ x * y ≤ 678223072849 := by
  have h1 : x.natAbs * y.natAbs ≤ 823543 * 823543 := Nat.mul_le_mul (by omega) (by omega)
  rw [← Int.natAbs_mul] at h1
  omega
theorem tdiv_abs {N q b : Int} (hq : 1 ≤ q) (h : -b ≤ N ∧ N ≤ b) : -b ≤ N.tdiv q ∧ N.tdiv q ≤ b := by
  by_cases h0 : 0 ≤ N
  · obtain ⟨_, h2, h3⟩ := tdiv_dn (show 0 < q by omega) h0
    have : 1 * N.tdiv q ≤ q * N.tdiv q := Int.mul_le_mul_of_nonneg_right hq h3
    omega
  · obtain ⟨h2, h3⟩ := tdiv_up (show 0 < q by omega) (show N ≤ 0 by omega)
    have : 1 * (-N.tdiv q) ≤ q * (-N.tdiv q) := Int.mul_le_mul_of_nonneg_right hq (by omega)
    have h5 : q * (-N.tdiv q) = -(q * N.tdiv q) := Int.mul_neg ..
    omega
theorem stp_wrap {x p y z q : Int} (hq : 1 ≤ q) (hx : -823543 ≤ x ∧ x ≤ 823543) (hp : -823543 ≤ p ∧ p ≤ 823543) (hy : -823543 ≤ y ∧ y ≤ 823543) (hz : -823543 ≤ z ∧ z ≤ 823543) :
    IntKind.i64.wrap ((IntKind.i64.wrap (IntKind.i64.wrap (x * p) - IntKind.i64.wrap (y * z))).tdiv q) = (x * p - y * z).tdiv q := by
  have h1 := mul_small hx hp
  have h2 := mul_small hy hz
  have w1 : IntKind.i64.wrap (x * p) = x * p := wrap_ok (by omega) (by omega)
  have w2 : IntKind.i64.wrap (y * z) = y * z := wrap_ok (by omega) (by omega)
  have w3 : IntKind.i64.wrap (x * p - y * z) = x * p - y * z := wrap_ok (by omega) (by omega)
  rw [w1, w2, w3]
  have h3 := tdiv_abs (N := x * p - y * z) (b := 2000000000000) hq (by omega)
  exact wrap_ok (by omega) (by omega)
theorem ix8 (a b : Nat) : (0 + ((a : Int) * 8)) + ((b : Int) * 1) = ((a * 8 + b : Nat) : Int) := by omega
theorem c8 {a : Nat} (h : a < 8) : (ile 0 (a : Int) && ilt (a : Int) 8) = true := by rw [ile_t (by omega), ilt_t (by omega)]; rfl
def smallM (n k : Nat) (A : Nat → Nat → Int) : Prop := ∀ a b, k ≤ a → a < n → k ≤ b → b < n → -823543 ≤ A a b ∧ A a b ≤ 823543
def smallE (n k i : Nat) (A : Nat → Nat → Int) : Prop := ∀ a b, (a = k ∨ a = i ∨ b = k) → k ≤ a → a < n → k ≤ b → b < n → -823543 ≤ A a b ∧ A a b ≤ 823543
def rowC (A : Nat → Nat → Int) (q : Int) (k i J : Nat) : Nat → Nat → Int := fun a b => if a = i ∧ k < b ∧ b < J then stp A q k i b else A a b
theorem rowC_next (A : Nat → Nat → Int) (q : Int) {k i J : Nat} (hJ : k < J) (a b : Nat) : upM (rowC A q k i J) i J (stp A q k i J) a b = rowC A q k i (J + 1) a b := by
  unfold upM rowC
  by_cases e : a = i ∧ b = J
  · obtain ⟨rfl, rfl⟩ := e
    rw [if_pos ⟨rfl, rfl⟩, if_pos ⟨rfl, hJ, by omega⟩]
  · rw [if_neg e]
    by_cases e2 : a = i ∧ k < b ∧ b < J
    · rw [if_pos e2, if_pos ⟨e2.1, e2.2.1, by omega⟩]
    · rw [if_neg e2, if_neg fun h => e2 ⟨h.1, h.2.1, by rcases Nat.lt_or_ge b J with h1 | h1; exact h1; exact absurd ⟨h.1, by omega⟩ e⟩]
theorem bar_ij {R : Type} {N n k i : Nat} {A : Nat → Nat → Int} {q x16 x17 : Int} {k0 : Int → Int → Int → Int → Int → Int → List Int → Option R} (hn : n ≤ 7) (hki : k < i) (hi : i < n) (hq : 1 ≤ q) (hA : smallE n k i A) :
    ∀ (d J K : Nat) (o : List Int), J + d = n → d < K → k < J → ImpM n o (rowC A q k i J) → ∃ o', ImpM n o' (rowC A q k i n) ∧ Zq3_l1_0_0 N k0 K (n : Int) q (k : Int) (i : Int) (J : Int) x16 x17 o = k0 (n : Int) q (k : Int) (i : Int) x16 x17 o' := by
  intro d
  induction d with
  | zero =>
    intro J K o hd hK hJ ho
    obtain ⟨K, rfl⟩ := succ_of hK
    have : J = n := by omega
    subst this
    simp only [Zq3_l1_0_0, ilt_nf (Nat.lt_irrefl J), br_f]
    exact ⟨o, ho, rfl⟩
  | succ d ih =>
    intro J K o hd hK hJ ho
    obtain ⟨K, rfl⟩ := succ_of hK
    have hJn : J < n := by omega
    have hin : ∀ a b : Nat, a < n → b < n → inb o ((a * 8 + b : Nat) : Int) = true := fun a b ha hb => inb_n (by have := ho.1; omega)
    have e1 : rdI o ((i * 8 + J : Nat) : Int) = A i J := by rw [ho.2 i J hi hJn]; unfold rowC; rw [if_neg (by omega)]
    have e2 : rdI o ((k * 8 + k : Nat) : Int) = A k k := by rw [ho.2 k k (by omega) (by omega)]; unfold rowC; rw [if_neg (by omega)]
    have e3 : rdI o ((i * 8 + k : Nat) : Int) = A i k := by rw [ho.2 i k hi (by omega)]; unfold rowC; rw [if_neg (by omega)]
    have e4 : rdI o ((k * 8 + J : Nat) : Int) = A k J := by rw [ho.2 k J (by omega) hJn]; unfold rowC; rw [if_neg (by omega)]
    simp only [Zq3_l1_0_0, ilt_n hJn, br_t, ix8, c8 (show i < 8 by omega), c8 (show J < 8 by omega), c8 (show k < 8 by omega), hin i J hi hJn, hin k k (by omega) (by omega), hin i k hi (by omega), hin k J (by omega) hJn, chk_t, e1, e2, e3, e4]
    rw [ine_t (show q ≠ 0 by omega), chk_t, stp_wrap hq (hA i J (.inr (.inl rfl)) (by omega) hi (by omega) hJn) (hA k k (.inl rfl) (Nat.le_refl k) (by omega) (Nat.le_refl k) (by omega)) (hA i k (.inr (.inl rfl)) (by omega) hi (Nat.le_refl k) (by omega)) (hA k J (.inl rfl) (Nat.le_refl k) (by omega) (by omega) hJn), wrap_succ (by omega)]
    exact ih (J + 1) K _ (by omega) (by omega) (by omega) (impM_congr (impM_set hn ho hi hJn) fun a b _ _ => rowC_next A q hJ a b)
theorem bar_sj {R : Type} {N n k i : Nat} {A : Nat → Nat → Int} {q x11 : Int} {k0 : Int → Int → Int → Int → List (List Int) → Option R} (hn : n ≤ 7) (hki : k < i) (hi : i < n) (hq : 1 ≤ q) (hA : smallE n k i A) :
    ∀ (d J K : Nat) (o : List (List Int)), J + d = n → d < K → k < J → SpcM n o (rowC A q k i J) → ∃ o', SpcM n o' (rowC A q k i n) ∧ Zq29_l0_1_0 N k0 K x11 q (k : Int) (i : Int) (J : Int) o = k0 x11 q (k : Int) (i : Int) o' := by
  intro d
  induction d with
  | zero =>
    intro J K o hd hK hJ ho
    obtain ⟨K, rfl⟩ := succ_of hK
    simp only [Zq29_l0_1_0]
    have : J = n := by omega
    subst this
    rw [ilt_lenf (by rw [ho.1]; omega), br_f]
    exact ⟨o, ho, rfl⟩
  | succ d ih =>
    intro J K o hd hK hJ ho
    obtain ⟨K, rfl⟩ := succ_of hK
    have hJn : J < n := by omega
    have hr : ∀ a : Nat, a < n → inb o (a : Int) = true := fun a ha => inb_n (by rw [ho.1]; exact ha)
    have hc : ∀ a b : Nat, a < n → b < n → inb (rdL o (a : Int)) (b : Int) = true := fun a b ha hb => inb_n (by rw [ho.2.1 a ha]; exact hb)
    have e1 : rdI (rdL o (i : Int)) (J : Int) = A i J := by rw [ho.2.2 i J hi hJn]; unfold rowC; rw [if_neg (by omega)]
    have e2 : rdI (rdL o (k : Int)) (k : Int) = A k k := by rw [ho.2.2 k k (by omega) (by omega)]; unfold rowC; rw [if_neg (by omega)]
    have e3 : rdI (rdL o (i : Int)) (k : Int) = A i k := by rw [ho.2.2 i k hi (by omega)]; unfold rowC; rw [if_neg (by omega)]
    have e4 : rdI (rdL o (k : Int)) (J : Int) = A k J := by rw [ho.2.2 k J (by omega) hJn]; unfold rowC; rw [if_neg (by omega)]
    simp only [Zq29_l0_1_0]
    rw [ilt_len (by rw [ho.1]; exact hJn), br_t]
    simp only [hr i hi, hr k (by omega), hc i J hi hJn, hc k k (by omega) (by omega), hc i k hi (by omega), hc k J (by omega) hJn, chk_t, e1, e2, e3, e4]
    rw [ine_t (show q ≠ 0 by omega), chk_t, stp_wrap hq (hA i J (.inr (.inl rfl)) (by omega) hi (by omega) hJn) (hA k k (.inl rfl) (Nat.le_refl k) (by omega) (Nat.le_refl k) (by omega)) (hA i k (.inr (.inl rfl)) (by omega) hi (Nat.le_refl k) (by omega)) (hA k J (.inl rfl) (Nat.le_refl k) (by omega) (by omega) hJn), wrap_succ (by omega)]
    exact ih (J + 1) K _ (by omega) (by omega) (by omega) (spcM_congr (spcM_set ho hi hJn) fun a b _ _ => rowC_next A q hJ a b)
def matD (A : Nat → Nat → Int) (q : Int) (n k I : Nat) : Nat → Nat → Int := fun a b => if k < a ∧ a < I ∧ k < b ∧ b < n then stp A q k a b else A a b
theorem matD_small {n k I : Nat} {A : Nat → Nat → Int} {q : Int} (hI : k < I) : ∀ a b, (a = k ∨ a = I ∨ b = k) → matD A q n k I a b = A a b := fun a b h => by
  unfold matD
  rw [if_neg (by omega)]
theorem matD_next {n k I : Nat} {A : Nat → Nat → Int} {q : Int} (hI : k < I) (a b : Nat) (hb : b < n) : rowC (matD A q n k I) q k I n a b = matD A q n k (I + 1) a b := by
  have es : stp (matD A q n k I) q k I b = stp A q k I b := by
    unfold stp
    rw [matD_small hI I b (by omega), matD_small hI k k (by omega), matD_small hI I k (by omega), matD_small hI k b (by omega)]
  unfold rowC
  by_cases e : a = I ∧ k < b ∧ b < n
  · rw [if_pos e, es]
    unfold matD
    rw [if_pos (by omega), e.1]
  · rw [if_neg e]
    unfold matD
    by_cases e2 : k < a ∧ a < I ∧ k < b ∧ b < n
    · rw [if_pos e2, if_pos (by omega)]
    · rw [if_neg e2, if_neg (by omega)]
theorem smallM_D {n k I : Nat} {A : Nat → Nat → Int} {q : Int} (hI : k < I) (hA : smallM n k A) : smallE n k I (matD A q n k I) := fun a b h h1 h2 h3 h4 => by
  rw [matD_small hI a b h]
  exact hA a b h1 h2 h3 h4
theorem bar_ii {R : Type} {N n k : Nat} {A : Nat → Nat → Int} {q x9 x10 : Int} {k0 : Int → Int → Int → Int → List Int → Option R} (hn : n ≤ 7) (hq : 1 ≤ q) (hA : smallM n k A) (hN : 1048577 ≤ N) :
    ∀ (d I K : Nat) (o : List Int), I + d = n → d < K → k < I → ImpM n o (matD A q n k I) → ∃ o', ImpM n o' (matD A q n k n) ∧ Zq3_l1_0 N k0 K (n : Int) q (k : Int) (I : Int) x9 x10 o = k0 (n : Int) (k : Int) x9 x10 o' := by
  intro d
  induction d with
  | zero =>
    intro I K o hd hK hI ho
    obtain ⟨K, rfl⟩ := succ_of hK
    have : I = n := by omega
    subst this
    simp only [Zq3_l1_0, ilt_nf (Nat.lt_irrefl I), br_f]
    exact ⟨o, ho, rfl⟩
  | succ d ih =>
    intro I K o hd hK hI ho
    obtain ⟨K, rfl⟩ := succ_of hK
    have hIn : I < n := by omega
    simp only [Zq3_l1_0, ilt_n hIn, br_t]
    rw [wrap_succ (show k < 4611686018427387904 by omega)]
    obtain ⟨o1, h1, h2⟩ := bar_ij (N := N) (A := matD A q n k I) (q := q) (x16 := x9) (x17 := x10) (k0 := fun x11 x12 x13 x14 x15 x16 o3 => Zq3_l1_0 N k0 K x11 x12 x13 (IntKind.i64.wrap (x14 + 1)) x15 x16 o3) hn hI hIn hq (smallM_D hI hA) (n - (k + 1)) (k + 1) N o (by omega) (by omega) (by omega) (impM_congr ho fun a b _ _ => by unfold rowC; rw [if_neg (by omega)])
    rw [h2, wrap_succ (by omega)]
    exact ih (I + 1) K o1 (by omega) (by omega) (by omega) (impM_congr h1 fun a b _ hb => matD_next hI a b hb)
theorem bar_si {R : Type} {N n k : Nat} {A : Nat → Nat → Int} {q x7 : Int} {k0 : Int → Int → List (List Int) → Option R} (hn : n ≤ 7) (hq : 1 ≤ q) (hA : smallM n k A) (hN : 1048577 ≤ N) :
    ∀ (d I K : Nat) (o : List (List Int)), I + d = n → d < K → k < I → SpcM n o (matD A q n k I) → ∃ o', SpcM n o' (matD A q n k n) ∧ Zq29_l0_1 N k0 K x7 q (k : Int) (I : Int) o = k0 x7 (k : Int) o' := by
  intro d
  induction d with
  | zero =>
    intro I K o hd hK hI ho
    obtain ⟨K, rfl⟩ := succ_of hK
    have : I = n := by omega
    subst this
    simp only [Zq29_l0_1]
    rw [ilt_lenf (by rw [ho.1]; omega), br_f]
    exact ⟨o, ho, rfl⟩
  | succ d ih =>
    intro I K o hd hK hI ho
    obtain ⟨K, rfl⟩ := succ_of hK
    have hIn : I < n := by omega
    simp only [Zq29_l0_1]
    rw [ilt_len (by rw [ho.1]; exact hIn), br_t, wrap_succ (show k < 4611686018427387904 by omega)]
    obtain ⟨o1, h1, h2⟩ := bar_sj (N := N) (A := matD A q n k I) (q := q) (x11 := x7) (k0 := fun x11 x12 x13 x14 o3 => Zq29_l0_1 N k0 K x11 x12 x13 (IntKind.i64.wrap (x14 + 1)) o3) hn hI hIn hq (smallM_D hI hA) (n - (k + 1)) (k + 1) N o (by omega) (by omega) (by omega) (spcM_congr ho fun a b _ _ => by unfold rowC; rw [if_neg (by omega)])
    rw [h2, wrap_succ (by omega)]
    exact ih (I + 1) K o1 (by omega) (by omega) (by omega) (spcM_congr h1 fun a b _ hb => matD_next hI a b hb)
theorem bar_find {R : Type} {N n k : Nat} {x3 x4 : Int} {k0 : Int → Int → Int → Int → List (List Int) → Option R} {rows : List (List Int)} (hn : n ≤ 7) (hk : k < n) (hr : rows.length = n) (hc : ∀ i, i < n → (rdL rows (i : Int)).length = n) (h0 : ∀ i, k ≤ i → i < n → rdI (rdL rows (i : Int)) (k : Int) = 0) :
    ∀ (d I K : Nat), I + d = n → d < K → k ≤ I → Zq29_l0_0 N k0 K x3 x4 (k : Int) (I : Int) rows = k0 x3 x4 (k : Int) (n : Int) rows := by
  intro d
  induction d with
  | zero =>
    intro I K hd hK hI
    obtain ⟨K, rfl⟩ := succ_of hK
    have : I = n := by omega
    subst this
    simp only [Zq29_l0_0]
    rw [ilt_lenf (by omega), br_f]
  | succ d ih =>
    intro I K hd hK hI
    obtain ⟨K, rfl⟩ := succ_of hK
    have hIn : I < n := by omega
    simp only [Zq29_l0_0]
    rw [ilt_len (by omega), br_t, inb_n (by omega), chk_t, inb_n (by rw [hc I hIn]; exact hk), chk_t, h0 I hI hIn, ieq_t rfl, br_t, wrap_succ (by omega)]
    exact ih (I + 1) K (by omega) (by omega) (by omega)
theorem bar_main {N n : Nat} (hn : n ≤ 7) (hN : 1048577 ≤ N) : ∀ (d k K1 K2 : Nat) (A : Nat → Nat → Int) (q : Int) (o : List Int) (rows : List (List Int)), k + d = n → d < K1 → d < K2 → ImpM n o A → SpcM n rows A → Bar n k A q →
    ∃ v : Int, Zq3_l1 N (fun x1 x2 => some ((x1, x2, ()), ())) (fun x3 => some ((x3, true, ()), ())) K1 (n : Int) q (n : Int) (k : Int) o = (some ((v, true, ()), ()) : Option ((Int × Bool × Unit) × Unit)) ∧
      Zq29_l0 N (fun x => some ((x, ()), ())) (fun x1 x2 => some (((IntKind.i64.wrap (x1 * x2)), ()), ())) K2 1 q (k : Int) rows = (some ((v, ()), ()) : Option ((Int × Unit) × Unit)) := by
  intro d
  induction d with
  | zero =>
    intro k K1 K2 A q o rows hd h1 h2 ho hr hB
    obtain ⟨K1, rfl⟩ := succ_of h1
    obtain ⟨K2, rfl⟩ := succ_of h2
    have : k = n := by omega
    subst this
    have hp : 7 ^ k ≤ 7 ^ 7 := Nat.pow_le_pow_right (by omega) (by omega)
    have q1 := hB.q1
    have q2 := hB.q2
    simp only [Zq3_l1, Zq29_l0]
    rw [ilt_nf (Nat.lt_irrefl k), br_f, ilt_lenf (by rw [hr.1]; omega), br_f, Int.one_mul, wrap_ok (by omega) (by omega)]
    exact ⟨q, rfl, rfl⟩
  | succ d ih =>
    intro k K1 K2 A q o rows hd h1 h2 ho hr hB
    obtain ⟨K1, rfl⟩ := succ_of h1
    obtain ⟨K2, rfl⟩ := succ_of h2
    have hk : k < n := by omega
    have hA : smallM n k A := fun a b q1 q2 q3 q4 => bar_small hB hn q1 q2 q3 q4
    have hin : inb o ((k * 8 + k : Nat) : Int) = true := inb_n (by have := ho.1; omega)
    have e0 : rdI o ((k * 8 + k : Nat) : Int) = A k k := ho.2 k k hk hk
    have s0 : rdI (rdL rows (k : Int)) (k : Int) = A k k := hr.2.2 k k hk hk
    simp only [Zq3_l1, Zq29_l0]
    rw [ilt_n hk, br_t, ilt_len (by rw [hr.1]; exact hk), br_t]
    simp only [ix8, c8 (show k < 8 by omega), hin, chk_t, e0]
    by_cases h0 : A k k = 0
    · rw [ieq_t h0, br_t, bar_find hn hk hr.1 hr.2.1 (fun i q1 q2 => by rw [hr.2.2 i k q2 hk]; exact bar_zero hB hk h0 q1 q2) (n - k) k N (by omega) (by omega) (Nat.le_refl k), tLen_n, ieq_t (show (n : Int) = (rows.length : Int) by rw [hr.1]), br_t]
      exact ⟨0, rfl, rfl⟩
    · have hfind : ∀ {R : Type} (k0 : Int → Int → Int → Int → List (List Int) → Option R), Zq29_l0_0 N k0 N 1 q (k : Int) (k : Int) rows = k0 1 q (k : Int) (k : Int) rows := by
        intro R k0
        obtain ⟨N', hN'⟩ := succ_of (show 0 < N by omega)
        rw [show Zq29_l0_0 N k0 N 1 q (k : Int) (k : Int) rows = Zq29_l0_0 N k0 (N' + 1) 1 q (k : Int) (k : Int) rows by rw [← hN']]
        simp only [Zq29_l0_0]
        rw [ilt_len (by rw [hr.1]; exact hk), br_t, inb_n (by rw [hr.1]; exact hk), chk_t, inb_n (by rw [hr.2.1 k hk]; exact hk), chk_t, s0, ieq_f h0, br_f]
      have hD0 : ∀ a b, a < n → b < n → A a b = matD A q n k (k + 1) a b := fun a b _ _ => by unfold matD; rw [if_neg (by omega)]
      rw [ieq_f h0, br_f, hfind, tLen_n, ieq_f (show (k : Int) ≠ (rows.length : Int) by rw [hr.1]; omega), br_f, ilt_f (show ¬ (k : Int) < (k : Int) by omega), br_f, wrap_succ (show k < 4611686018427387904 by omega)]
      have hB2 : Bar n (k + 1) (matD A q n k n) (A k k) := bar_step hB hk h0 fun i j a1 a2 a3 a4 => by unfold matD; rw [if_pos (by omega)]
      have ek : matD A q n k n k k = A k k := by unfold matD; rw [if_neg (by omega)]
      obtain ⟨o1, p1, p2⟩ := bar_ii (R := (Int × Bool × Unit) × Unit) (N := N) (x9 := (n : Int)) (x10 := (k : Int)) (k0 := fun x5 x6 x7 x8 o2 => (chk (ile 0 x6 && ilt x6 8)
          (chk (ile 0 x6 && ilt x6 8)
          (chk (inb o2 ((0 + (x6 * 8)) + (x6 * 1)))
          (Zq3_l1 N (fun x1 x2 => some ((x1, x2, ()), ())) (fun x3 => some ((x3, true, ()), ())) K1 x5 (rdI o2 ((0 + (x6 * 8)) + (x6 * 1))) x7 (IntKind.i64.wrap (x8 + 1)) o2))))) hn hB.q1 hA hN (n - (k + 1)) (k + 1) N o (by omega) (by omega) (by omega) (impM_congr ho hD0)
      obtain ⟨r1, p3, p4⟩ := bar_si (R := (Int × Unit) × Unit) (N := N) (x7 := 1) (k0 := fun x7 x8 o2 => (chk (inb o2 x8)
            (chk (inb (rdL o2 x8) x8)
            (Zq29_l0 N (fun x => some ((x, ()), ())) (fun x1 x2 => some (((IntKind.i64.wrap (x1 * x2)), ()), ())) K2 x7 (rdI (rdL o2 x8) x8) (IntKind.i64.wrap (x8 + 1)) o2)))) hn hB.q1 hA hN (n - (k + 1)) (k + 1) N rows (by omega) (by omega) (by omega) (spcM_congr hr hD0)
      simp only [ix8] at p2
      rw [p2, p4]
      simp only [ix8, c8 (show k < 8 by omega), chk_t]
      rw [inb_n (show k * 8 + k < o1.length by have := p1.1; omega), chk_t, p1.2 k k hk hk, ek, inb_n (by rw [p3.1]; exact hk), chk_t, inb_n (by rw [p3.2.1 k hk]; exact hk), chk_t, p3.2.2 k k hk hk, ek, wrap_succ (show k < 4611686018427387904 by omega)]
      exact ih (k + 1) K1 K2 (matD A q n k n) (A k k) o1 r1 (by omega) (by omega) (by omega) p1 p3 hB2
open Classical in
noncomputable def lapM (m : Nat) (es : List (Int × Int)) (a b : Nat) : Int := if a = b then ((nbr m es (a : Int)).length : Int) else if nearG es (a : Int) (b : Int) then -1 else 0
theorem near_symm {es : List (Int × Int)} {a b : Int} (h : nearG es a b) : nearG es b a := h.symm
theorem near_irr {m : Nat} {es : List (Int × Int)} (hg : goodG ((m : Int), es)) (a : Int) : ¬ nearG es a a := fun h => by
  rcases h with h | h
  · have := (goodG_edges hg _ h).2.1; simp only at this; omega
  · have := (goodG_edges hg _ h).2.1; simp only at this; omega
theorem lapN_len {m : Nat} {es : List (Int × Int)} (hg : goodG ((m : Int), es)) {a : Nat} (ha : a < m) : (nbr m es (a : Int)).length + 1 ≤ m := by
  have hnd : (nbr m es (a : Int)).Nodup := by
    unfold nbr
    have h0 : ((List.range' 0 m).filter fun i : Nat => decide (nearG es (a : Int) (i : Int))).Nodup := List.Nodup.sublist List.filter_sublist List.nodup_range'
    exact List.pairwise_map.2 (h0.imp fun {x y : Nat} (q : x ≠ y) (e : (x : Int) = (y : Int)) => q (by omega))
  have hx : (a : Int) ∉ nbr m es (a : Int) := fun h => by
    obtain ⟨i, _, h2, e⟩ := mem_nbr.1 h
    rw [← e] at h2
    exact near_irr hg _ h2
  have := nodup_le (List.nodup_cons.2 ⟨hx, hnd⟩) (b := (List.range' 0 m).map fun i : Nat => (i : Int)) fun z hz => by
    rcases List.mem_cons.1 hz with rfl | hz
    · exact List.mem_map.2 ⟨a, List.mem_range'_1.2 ⟨by omega, by omega⟩, rfl⟩
    · obtain ⟨i, h1, _, rfl⟩ := mem_nbr.1 hz
      exact List.mem_map.2 ⟨i, List.mem_range'_1.2 ⟨by omega, by omega⟩, rfl⟩
  simpa using this
theorem lap_row {m : Nat} {es : List (Int × Int)} {i : Nat} : ∀ (d lo : Nat), (if lo ≤ i ∧ i < lo + d then ((nbr m es (i : Int)).length : Int) else 0) - (((List.range' lo d).filter fun t : Nat => decide (nearG es (i : Int) (t : Int))).length : Int) ≤ sm (lapM m es i) lo d := by
  classical
  intro d
  induction d with
  | zero =>
    intro lo
    rw [if_neg (by omega)]
    simp [sm]
  | succ d ih =>
    intro lo
    have h := ih (lo + 1)
    simp only [sm]
    rw [List.range'_succ]
    by_cases e : i = lo
    · subst e
      rw [if_neg (by omega)] at h
      rw [if_pos (by omega)]
      have e1 : lapM m es i i = ((nbr m es (i : Int)).length : Int) := by unfold lapM; rw [if_pos rfl]
      rw [e1]
      by_cases q : nearG es (i : Int) (i : Int)
      · rw [List.filter_cons, if_pos (decide_eq_true q), List.length_cons]; omega
      · rw [List.filter_cons, if_neg (fun h => q (of_decide_eq_true h))]; omega
    · by_cases q : nearG es (i : Int) (lo : Int)
      · have e1 : lapM m es i lo = -1 := by unfold lapM; rw [if_neg e, if_pos q]
        rw [e1, List.filter_cons, if_pos (decide_eq_true q), List.length_cons]
        by_cases q2 : lo + 1 ≤ i ∧ i < lo + 1 + d
        · rw [if_pos q2] at h; rw [if_pos (by omega)]; omega
        · rw [if_neg q2] at h; rw [if_neg (by omega)]; omega
      · have e1 : lapM m es i lo = 0 := by unfold lapM; rw [if_neg e, if_neg q]
        rw [e1, List.filter_cons, if_neg (fun h => q (of_decide_eq_true h))]
        by_cases q2 : lo + 1 ≤ i ∧ i < lo + 1 + d
        · rw [if_pos q2] at h; rw [if_pos (by omega)]; omega
        · rw [if_neg q2] at h; rw [if_neg (by omega)]; omega
theorem lap_bar {m n : Nat} {es : List (Int × Int)} (hg : goodG ((m : Int), es)) (hm : m ≤ 8) (hn : n + 1 = m) : Bar n 0 (lapM m es) 1 := by
  classical
  refine ⟨Int.le_refl 1, by simp, fun i j _ _ _ _ => ?_, fun i j _ _ _ _ e => ?_, fun i _ hi => ?_, fun i _ hi => ?_⟩
  · unfold lapM
    by_cases e : i = j
    · subst e; rfl
    · rw [if_neg e, if_neg (Ne.symm e)]
      by_cases q : nearG es (i : Int) (j : Int)
      · rw [if_pos q, if_pos (near_symm q)]
      · rw [if_neg q, if_neg fun h => q (near_symm h)]
  · unfold lapM
    rw [if_neg e]
    split <;> omega
  · have h := lap_row (m := m) (es := es) (i := i) n 0
    rw [if_pos (by omega)] at h
    have hs : ((List.range' 0 n).filter fun t : Nat => decide (nearG es (i : Int) (t : Int))).length ≤ (nbr m es (i : Int)).length := by
      unfold nbr
      rw [List.length_map, ← hn, List.range'_1_concat, List.filter_append, List.length_append]
      omega
    rw [Nat.sub_zero]
    omega
  · have e1 : lapM m es i i = ((nbr m es (i : Int)).length : Int) := by unfold lapM; rw [if_pos rfl]
    rw [e1]
    have := lapN_len hg (show i < m by omega)
    omega
noncomputable def lapT (m : Nat) (es : List (Int × Int)) (X Y a b : Nat) : Int := if a < X then lapM m es a b else if a = X then (if b = X then lapM m es X X else if b < Y then lapM m es X b else 0) else 0
theorem lap_in {R : Type} {N m n X : Nat} {es : List (Int × Int)} {x3 x5 x6 : Int} {k0 : Int → Int → Int → Int → List (Int × Int) → List Int → Option R} (hg : goodG ((m : Int), es)) (hx : es.length ≤ 1048576) (hn : n ≤ 7) (hX : X < n) (hN : 1048577 ≤ N) :
    ∀ (d Y K : Nat) (o : List Int), Y + d = n → d < K → ImpM n o (lapT m es X Y) → ∃ o', ImpM n o' (lapT m es X n) ∧ Zq3_l0_0 N k0 K x3 (X : Int) x5 x6 (n : Int) (Y : Int) (m : Int) es o = k0 x3 x5 x6 (m : Int) es o' := by
  classical
  have hed : ∀ e ∈ es, e.1 < e.2 := fun e he => (goodG_edges hg e he).2.1
  intro d
  induction d with
  | zero =>
    intro Y K o hd hK ho
    obtain ⟨K, rfl⟩ := succ_of hK
    have : Y = n := by omega
    subst this
    simp only [Zq3_l0_0, ilt_nf (Nat.lt_irrefl Y), br_f]
    exact ⟨o, ho, rfl⟩
  | succ d ih =>
    intro Y K o hd hK ho
    obtain ⟨K, rfl⟩ := succ_of hK
    have hY : Y < n := by omega
    have hws : IntKind.i64.wrap ((Y : Int) + 1) = ((Y + 1 : Nat) : Int) := wrap_succ (by omega)
    simp only [Zq3_l0_0, ilt_n hY, br_t]
    rw [hws]
    by_cases e : X = Y
    · rw [ine_f (show (X : Int) = (Y : Int) by omega), br_f]
      refine ih (Y + 1) K o (by omega) (by omega) (impM_congr ho fun a b _ _ => ?_)
      unfold lapT
      by_cases q1 : a < X
      · rw [if_pos q1, if_pos q1]
      · rw [if_neg q1, if_neg q1]
        by_cases q2 : a = X
        · rw [if_pos q2, if_pos q2]
          by_cases q3 : b = X
          · rw [if_pos q3, if_pos q3]
          · rw [if_neg q3, if_neg q3]
            by_cases q4 : b < Y
            · rw [if_pos q4, if_pos (by omega)]
            · rw [if_neg q4, if_neg (by omega)]
        · rw [if_neg q2, if_neg q2]
    · rw [ine_t (show (X : Int) ≠ (Y : Int) by omega), br_t, Graph_has_eq (g := ((m : Int), es)) hed hx hN, bind_some']
      simp only []
      by_cases q : nearG es (X : Int) (Y : Int)
      · rw [decide_eq_true q, br_t, c8 (show X < 8 by omega), chk_t, c8 (show Y < 8 by omega), chk_t, ix8, inb_n (by have := ho.1; omega), chk_t]
        refine ih (Y + 1) K _ (by omega) (by omega) (impM_congr (impM_set hn ho hX hY) fun a b _ _ => ?_)
        have e1 : lapM m es X Y = -1 := by unfold lapM; rw [if_neg e, if_pos q]
        unfold upM lapT
        by_cases q0 : a = X ∧ b = Y
        · obtain ⟨rfl, rfl⟩ := q0
          rw [if_pos ⟨rfl, rfl⟩, if_neg (Nat.lt_irrefl _), if_pos rfl, if_neg (Ne.symm e), if_pos (by omega), e1]
        · rw [if_neg q0]
          by_cases q1 : a < X
          · rw [if_pos q1, if_pos q1]
          · rw [if_neg q1, if_neg q1]
            by_cases q2 : a = X
            · rw [if_pos q2, if_pos q2]
              by_cases q3 : b = X
              · rw [if_pos q3, if_pos q3]
              · rw [if_neg q3, if_neg q3]
                by_cases q4 : b < Y
                · rw [if_pos q4, if_pos (by omega)]
                · rw [if_neg q4, if_neg (by omega)]
            · rw [if_neg q2, if_neg q2]
      · rw [decide_eq_false q, br_f]
        refine ih (Y + 1) K o (by omega) (by omega) (impM_congr ho fun a b _ _ => ?_)
        have e1 : lapM m es X Y = 0 := by unfold lapM; rw [if_neg e, if_neg q]
        unfold lapT
        by_cases q1 : a < X
        · rw [if_pos q1, if_pos q1]
        · rw [if_neg q1, if_neg q1]
          by_cases q2 : a = X
          · rw [if_pos q2, if_pos q2]
            by_cases q3 : b = X
            · rw [if_pos q3, if_pos q3]
            · rw [if_neg q3, if_neg q3]
              by_cases q4 : b < Y
              · rw [if_pos q4, if_pos (by omega)]
              · rw [if_neg q4]
                by_cases q5 : b = Y
                · subst q5; rw [if_pos (by omega), e1]
                · rw [if_neg (by omega)]
          · rw [if_neg q2, if_neg q2]
end Go.Proofs.Ytfilchmabmfmaaa
