/- Statements on data alone. -/
import Derived.Test.YtfilchmabmfmaaaGreatPvPure
import Derived.Test.YtfilchmabmfmaaaGreatParitiesGc
set_option linter.all false
set_option linter.all false
namespace Go.Proofs.YtfilchmabmfmaaaGreat
open Go Go.PV Classical
theorem rPairs_self {N : Nat} {a : List (Int × Int)} (hx : a.length ≤ 1048576) (hN : 1048577 ≤ N) : Zq45 N a a = some ((true, ()), ()) := by
  unfold Zq45
  rw [ine_f rfl, br_f]
  have go : ∀ (d n K : Nat), n + d = a.length → d < K → Zq45_l0 N (fun x => some ((x, ()), ())) (fun (_ : Unit) => some ((true, ()), ())) K a a (n : Int) = some ((true, ()), ()) := by
    intro d
    induction d with
    | zero =>
      intro n K hd hK
      obtain ⟨K, rfl⟩ := succ_of hK
      simp only [Zq45_l0, ilt_lenf (show ¬ n < a.length by omega), br_f]
    | succ d ih =>
      intro n K hd hK
      obtain ⟨K, rfl⟩ := succ_of hK
      have hn : n < a.length := by omega
      simp only [Zq45_l0, ilt_len hn, br_t, inb_n hn, chk_t]
      rw [ieq_t rfl, ieq_t rfl, wrap_succ (by omega)]
      simp only [Bool.and_self, Bool.not_true, br_f]
      exact ih (n + 1) K (by omega) (by omega)
  exact go a.length 0 N (by omega) (by omega)
theorem rSpace_self {N : Nat} {x : List (List Int) × List (Int × Int)} (h : okSp x) (hN : 1048577 ≤ N) : Zq46 N x x = some ((true, ()), ()) := by
  obtain ⟨h1, h2, h3, h4⟩ := h
  unfold Zq46
  rw [rTable_eq h1 h2 hN, bind_some', decide_eq_true rfl, br_t, rPairs_self h3 hN, bind_some']
theorem isState_eq {N : Nat} {s : List Int} (hl : s.length ≤ 24) (hb : ∀ z ∈ s, -99 ≤ z ∧ z ≤ 99) (hN : 1048577 ≤ N) : Zq34 N s = some ((true, ()), ()) := by
  unfold Zq34
  rw [tLen_n, ile_t (by omega), br_t, ContainsFunc_LI_int_eq (g := fun z => !decide (-99 ≤ z ∧ z ≤ 99)) (fun z _ => ?_) (by omega) (by omega), bind_some']
  · have : (s.any fun z => !decide (-99 ≤ z ∧ z ≤ 99)) = false := by
      rw [List.any_eq_false]
      intro z hz
      rw [decide_eq_true (hb z hz)]
      simp
    rw [this]
    rfl
  · unfold Zq35
    rw [between_eq, bind_some', bind_some']
theorem okSt_pair {n : Nat} {st : List (Int × Int)} (h : okSt n st) : ∀ i : Nat, i < st.length → pairAt (n : Int) st i := by
  intro i hi
  have h2 := h.2 _ (List.getElem_mem hi)
  rw [← rdP_n hi] at h2
  refine ⟨⟨h2.1, h2.2.1, h2.2.2⟩, fun h0 => ?_⟩
  have := (List.pairwise_iff_getElem.1 h.1) (i - 1) i (by omega) hi (by omega)
  rw [rdP_n hi, rdP_n (show i - 1 < st.length by omega)]
  exact this
theorem isPairs_ok {N n : Nat} {es : List (Int × Int)} (hx : es.length ≤ 1048576) (h : okSt n es) (hN : 1048577 ≤ N) : Zq32 N es (n : Int) = some ((true, ()), ()) := by
  have hp := okSt_pair h
  unfold Zq32
  have go : ∀ (d n' K : Nat), n' + d = es.length → d < K → Zq32_l0 N (fun x => some ((x, ()), ())) (fun (_ : Unit) => some ((true, ()), ())) K es (n : Int) es (es.length : Int) (n' : Int) = some ((true, ()), ()) := by
    intro d
    induction d with
    | zero =>
      intro n' K hd hK
      obtain ⟨K, rfl⟩ := succ_of hK
      simp only [Zq32_l0, ilt_nf (show ¬ n' < es.length by omega), br_f]
    | succ d ih =>
      intro n' K hd hK
      obtain ⟨K, rfl⟩ := succ_of hK
      have hn : n' < es.length := by omega
      simp only [Zq32_l0, ilt_n hn, inb_n hn, br_t, chk_t]
      obtain ⟨⟨p1, p2, p3⟩, p4⟩ := hp n' hn
      rw [ilt_f (by omega), br_f, ile_f (by omega), br_f, ile_f (by omega), br_f, wrap_succ (by omega)]
      by_cases h0 : 0 < n'
      · rw [ilt_0 h0, br_t, wrap_pred (by omega) h0, inb_n (by omega), chk_t]
        obtain ⟨r, r1, r2, _⟩ := comparePairs_eq hN (rdP es ((n' - 1 : Nat) : Int)) ((rdP es n').1, (rdP es n').2)
        have := r2.2 (p4 h0)
        rw [r1]
        simp only [bind_some']
        rw [ile_f (by omega), br_f]
        exact ih (n' + 1) K (by omega) (by omega)
      · rw [ilt_0n h0, br_f]
        exact ih (n' + 1) K (by omega) (by omega)
  rw [tLen_n]
  exact go es.length 0 N (by omega) (by omega)
theorem isSpace_ok {N : Nat} {xs : List (List Int)} {st : List (Int × Int)} (h1 : xs.length ≤ 300) (h2 : st.length ≤ 6000) (hs : ∀ x ∈ xs, x.length ≤ 24 ∧ ∀ z ∈ x, -99 ≤ z ∧ z ≤ 99) (hl : lexSorted xs) (h : okSt xs.length st) (hN : 1048577 ≤ N) : Zq12 N (xs, st) = some ((true, ()), ()) := by
  unfold Zq12
  simp only []
  rw [tLen_n, tLen_n, ilt_f (by omega), br_f, ilt_f (by omega), br_f]
  have go : ∀ (d n K : Nat), n + d = xs.length → d < K → Zq12_l0 N (fun x1 => some ((x1, ()), ())) (fun o o1 => ((Zq32 N o1 (tLen o)).bind fun r => some ((r.1.1, ()), ()))) K xs (xs.length : Int) (n : Int) xs st = some ((true, ()), ()) := by
    intro d
    induction d with
    | zero =>
      intro n K hd hK
      obtain ⟨K, rfl⟩ := succ_of hK
      simp only [Zq12_l0, ilt_nf (show ¬ n < xs.length by omega), br_f]
      rw [tLen_n, isPairs_ok (by omega) h hN, bind_some']
    | succ d ih =>
      intro n K hd hK
      obtain ⟨K, rfl⟩ := succ_of hK
      have hn : n < xs.length := by omega
      obtain ⟨a1, a2⟩ := hs _ (List.getElem_mem hn)
      simp only [Zq12_l0, ilt_n hn, inb_n hn, br_t, chk_t]
      rw [rdL_n hn, isState_eq a1 a2 hN, bind_some']
      simp only [Bool.not_true, br_f]
      rw [wrap_succ (by omega)]
      by_cases h0 : 0 < n
      · have hn1 : n - 1 < xs.length := by omega
        obtain ⟨b1, b2⟩ := hs _ (List.getElem_mem hn1)
        have hlt := (List.pairwise_iff_getElem.1 hl) (n - 1) n hn1 hn (by omega)
        rw [ilt_0 h0, br_t, wrap_pred (by omega) h0, inb_n hn1, chk_t, rdL_n hn1, Compare_lex (by omega) (by omega) hN, bind_some']
        simp only []
        rw [ile_f (by omega), br_f]
        exact ih (n + 1) K (by omega) (by omega)
      · rw [ilt_0n h0, br_f]
        exact ih (n + 1) K (by omega) (by omega)
  exact go xs.length 0 N (by omega) (by omega)
theorem distFrom_eq {N : Nat} {xs : List (List Int)} {st : List (Int × Int)} {i : Nat} (h1 : xs.length ≤ 300) (h2 : st.length ≤ 6000) (hs : ∀ x ∈ xs, x.length ≤ 24 ∧ ∀ z ∈ x, -99 ≤ z ∧ z ≤ 99) (hl : lexSorted xs) (h : okSt xs.length st) (hi : i < xs.length) (hN : 1048577 ≤ N) :
    Zq3 N (xs, st) (i : Int) = some ((bfsD (nbL xs.length st) xs.length (i : Int), true, ()), ()) := by
  unfold Zq3
  simp only []
  rw [isSpace_ok h1 h2 hs hl h hN, bind_some']
  simp only [Bool.not_true, br_f]
  unfold Zq19
  simp only []
  rw [between_eq, bind_some', tLen_n, wrap_ok (by omega) (by omega), decide_eq_true (by omega), bind_some']
  simp only [Bool.not_true, br_f]
  rw [sroads_eq (by omega) (by omega) h hN, bind_some']
  simp only []
  rw [spread_eq (nbL_ok (by omega) h) (by omega) (in_nat hi) hN, bind_some']
theorem xor64 {a b : Nat} (ha : a < 256) (hb : b < 256) : bitop .xor .u64 (a : Int) (b : Int) = ((a ^^^ b : Nat) : Int) := by
  have e1 := ofInt64 (n := a) (by omega)
  have e2 := ofInt64 (n := b) (by omega)
  have h1 : a ^^^ b < 256 := Nat.xor_lt_two_pow (n := 8) ha hb
  show IntKind.u64.wrap (((BitVec.ofInt 64 (a : Int) ^^^ BitVec.ofInt 64 (b : Int)).toNat : Nat) : Int) = _
  rw [BitVec.toNat_xor, e1, e2]
  exact wrap64 (by omega)
theorem rHas_eq {N : Nat} {xs : List Int} {v : Int} (hx : xs.length ≤ 1048576) (hN : 1048577 ≤ N) : Zq43 N xs v = some ((decide (v ∈ xs), ()), ()) := by
  unfold Zq43
  have := loop_all_if (P := ∀ x ∈ xs, x ≠ v) (L := fun K i => Zq43_l0 N (fun x => some ((x, ()), ())) (fun (_ : Unit) => some ((false, ()), ())) K xs v i) (fun i => rdI xs i ≠ v) all_rdI (kt := some ((false, ()), ())) (kf := some ((true, ()), ())) (fun K n hn => ?_) (fun K n hn hp => ?_) (fun K n hn hp => ?_) (show xs.length < N by omega)
  · rw [show ((0 : Nat) : Int) = 0 from rfl] at this
    rw [this]
    by_cases h : v ∈ xs
    · rw [if_neg (fun h' => h' v h rfl), decide_eq_true h]
    · rw [if_pos (fun x hx (h' : x = v) => h (h' ▸ hx)), decide_eq_false h]
  · simp only [Zq43_l0, ilt_lenf hn, br_f]
  · simp only [Zq43_l0, ilt_len hn, br_t, inb_n hn, chk_t]
    rw [ieq_f hp, br_f, wrap_succ (by omega)]
  · simp only [Zq43_l0, ilt_len hn, br_t, inb_n hn, chk_t]
    rw [ieq_t (Decidable.not_not.1 hp), br_t]
def bz (b : Bool) : Int := cond b 1 0
theorem bitAt_z (m x v : Nat) : bitAt m x v = bz (x.testBit (m - 1 - v)) := by
  unfold bitAt bz
  rw [← Nat.toNat_testBit]
  cases x.testBit (m - 1 - v) <;> rfl
theorem row_len (m x : Nat) : (rowB m x).length = m := by simp [rowB]
theorem rd_row {m x v : Nat} (h : v < m) : rdI (rowB m x) (v : Int) = bz (x.testBit (m - 1 - v)) := by
  rw [rdI_n (by rw [row_len]; exact h), ← bitAt_z]
  simp [rowB]
def clN (op : Int) (x y z : Nat) : Nat := if op = 1 then (x &&& y ||| x &&& z) ||| y &&& z else if op = 2 then x &&& y else if op = 3 then x ||| y else (x ^^^ y) ^^^ z
theorem clN_lt {op : Int} {m x y z : Nat} (hx : x < 2 ^ m) (hy : y < 2 ^ m) (hz : z < 2 ^ m) : clN op x y z < 2 ^ m := by
  unfold clN
  split
  · exact Nat.or_lt_two_pow (Nat.or_lt_two_pow (Nat.and_lt_two_pow _ hy) (Nat.and_lt_two_pow _ hz)) (Nat.and_lt_two_pow _ hz)
  · split
    · exact Nat.and_lt_two_pow _ hy
    · split
      · exact Nat.or_lt_two_pow hx hy
      · exact Nat.xor_lt_two_pow (Nat.xor_lt_two_pow hx hy) hz
noncomputable def solsN (m : Nat) (cs : List (List Int)) : List Nat := (List.range (2 ^ m)).filter fun n => decide (solves (rowB m n) cs)
def castL (S : List Nat) : List Int := S.map fun n : Nat => (n : Int)
theorem solsL_rows (m : Nat) (cs : List (List Int)) : solsL ((m : Int), cs) = (solsN m cs).map (rowB m) := by
  unfold solsL solsN
  simp only [Int.toNat_natCast]
  rw [allB_rows, List.filter_map]
  rfl
theorem mem_solsN {m n : Nat} {cs : List (List Int)} : n ∈ solsN m cs ↔ n < 2 ^ m ∧ solves (rowB m n) cs := by
  unfold solsN
  rw [List.mem_filter, List.mem_range, decide_eq_true_eq]
theorem asBitsTab : ((List.range 7).all fun m => (List.range (2 ^ m)).all fun n => match Zq21 8 (rowB m n) with
  | some ((z, ()), ()) => z == (n : Int)
  | none => false) = true := by kernel_rfl
theorem asBits_more {N : Nat} {xs : List Int} {r : (Int × Unit) × Unit} (h : Zq21 8 xs = some r) (hN : 8 ≤ N) : Zq21 N xs = some r := by
  unfold Zq21 at h ⊢
  have go : ∀ (K N' : Nat) (out i : Int), K ≤ N' → ∀ r, Zq21_l0 8 (fun out => some ((out, ()), ())) K out xs (tLen xs) i = some r → Zq21_l0 N (fun out => some ((out, ()), ())) N' out xs (tLen xs) i = some r := by
    intro K
    induction K with
    | zero => intro N' out i _ r h; cases h
    | succ K ih =>
      intro N' out i hN' r h
      obtain ⟨N', rfl⟩ := succ_of (show K < N' by omega)
      simp only [Zq21_l0] at h ⊢
      cases q : ilt i (tLen xs) with
      | false => rw [q] at h; exact h
      | true =>
        rw [q, br_t] at h
        rw [br_t]
        cases q2 : inb xs i with
        | false => rw [q2] at h; cases h
        | true =>
          rw [q2, chk_t] at h
          rw [chk_t]
          exact ih N' _ _ (by omega) r h
  exact go 8 N 0 0 hN r h
theorem asBits_eq {N m n : Nat} (hm : m ≤ 6) (hn : n < 2 ^ m) (hN : 1048577 ≤ N) : Zq21 N (rowB m n) = some (((n : Int), ()), ()) := by
  have h := List.all_eq_true.1 asBitsTab m (List.mem_range.2 (by omega))
  have h := List.all_eq_true.1 h n (List.mem_range.2 hn)
  refine asBits_more (xs := rowB m n) ?_ (by omega)
  split at h
  · rename_i z e
    rw [e]
    have : z = (n : Int) := by simpa using h
    rw [this]
  · cases h
theorem wfI_n {n : Nat} (h : n < 18446744073709551616) : wfI .u64 (n : Int) = true := by
  unfold wfI
  rw [wrap64 h]
  exact ieq_t rfl
theorem hasI_cast {S : List Nat} {w : Nat} : hasI (castL S) (w : Int) = decide (w ∈ S) := by
  unfold hasI castL
  refine decide_eq_decide.2 ?_
  rw [List.mem_map]
  exact ⟨fun ⟨a, h, e⟩ => (show a = w by omega) ▸ h, fun h => ⟨w, h, rfl⟩⟩
theorem cast_len (S : List Nat) : (castL S).length = S.length := by simp [castL]
theorem rd_cast {S : List Nat} {i : Nat} (h : i < S.length) : rd U64 (castL S) (i : Int) = ((S.getD i 0 : Nat) : Int) := by
  show (castL S).getD (i : Int).toNat (0 : Int) = _
  simp [castL, h]
theorem getD_mem {S : List Nat} {i : Nat} (h : i < S.length) : S.getD i 0 ∈ S := by
  have e : S.getD i 0 = S[i] := by simp [h]
  rw [e]
  exact List.getElem_mem h
theorem closed_l0 {R : Type} {N m : Nat} {op : Int} {k0 : Int → List Int → List Int → Option R} (hm : m ≤ 6) {S : List Nat} (hS : ∀ n ∈ S, n < 2 ^ m) (hl : S.length ≤ 64) (hN : 1048577 ≤ N) :
    Zq8_l0 N k0 N op (tLen (S.map (rowB m))) 0 [] [] (S.map (rowB m)) = k0 op (castL S) (castL S) := by
  have h64 := pow_le64 hm
  have go : ∀ (d n K : Nat), n + d = S.length → d < K → Zq8_l0 N k0 K op (tLen (S.map (rowB m))) (n : Int) (castL (S.take n)) (castL (S.take n)) (S.map (rowB m)) = k0 op (castL S) (castL S) := by
    intro d
    induction d with
    | zero =>
      intro n K hd hK
      obtain ⟨K, rfl⟩ := succ_of hK
      simp only [Zq8_l0]
      rw [ilt_lenf (by simp; omega), br_f, List.take_of_length_le (by omega)]
    | succ d ih =>
      intro n K hd hK
      obtain ⟨K, rfl⟩ := succ_of hK
      have hn : n < S.length := by omega
      have hb := hS _ (List.getElem_mem hn)
      have nx := ih (n + 1) K (by omega) (by omega)
      have hlt : (castL (S.take n)).length ≤ 64 := by rw [cast_len, List.length_take]; omega
      simp only [Zq8_l0]
      rw [ilt_len (by simpa using hn), br_t, inb_n (by simpa using hn), chk_t, rdL_n (by simpa using hn), List.getElem_map, asBits_eq hm hb hN, bind_some']
      simp only []
      have hr : room (α := Int) (β := Int) (castL (S.take n)) [((S[n] : Nat) : Int)] = true := room_ok (by simp only [List.length_singleton]; omega)
      rw [wfI_n (by omega), hr, Bool.and_self, chk_t, chk_t, wrap_succ (by omega), tApp_d]
      have e : castL (S.take n) ++ [((S[n] : Nat) : Int)] = castL (S.take (n + 1)) := by
        unfold castL
        rw [List.take_succ_eq_append_getElem hn, List.map_append]
        rfl
      rw [e]
      exact nx
  exact go S.length 0 N (by omega) (by omega)
def clP (op : Int) (S : List Nat) (i j k : Nat) : Prop := clN op (S.getD i 0) (S.getD j 0) (S.getD k 0) ∈ S
theorem closed_k {R : Type} {N m : Nat} {op : Int} {S : List Nat} {k0 : Bool → Bool → Option R} {k1 : Int → Int → Int → Int → Int → Int → Int → Bool → List Int → List Int → Option R} {x3 x4 x5 x6 x7 : Int} {x8 : Bool} (hm : m ≤ 6) (hS : ∀ n ∈ S, n < 2 ^ m) (hl : S.length ≤ 64) (hop : op = 1 ∨ op = 4) {i j : Nat} (hi : i < S.length) (hj : j < S.length) (hN : 1048577 ≤ N) :
    Zq8_l1_0_0 N k0 k1 N op ((S.getD i 0 : Nat) : Int) ((S.getD j 0 : Nat) : Int) x3 x4 x5 x6 x7 x8 (tLen (castL S)) 0 (castL S) (castL S) = open Classical in if ∀ k, k < S.length → clP op S i j k then k1 op ((S.getD i 0 : Nat) : Int) x3 x4 x5 x6 x7 x8 (castL S) (castL S) else k0 false true := by
  classical
  have h64 := pow_le64 hm
  have hb : ∀ i, i < S.length → S.getD i 0 < 2 ^ m := fun i hi => hS _ (getD_mem hi)
  have bi := hb i hi
  have bj := hb j hj
  refine loop_all_if (P := ∀ k, k < S.length → clP op S i j k) (m := S.length) (L := fun K n => Zq8_l1_0_0 N k0 k1 K op ((S.getD i 0 : Nat) : Int) ((S.getD j 0 : Nat) : Int) x3 x4 x5 x6 x7 x8 (tLen (castL S)) (n : Int) (castL S) (castL S)) (clP op S i j) Iff.rfl (kt := k1 op ((S.getD i 0 : Nat) : Int) x3 x4 x5 x6 x7 x8 (castL S) (castL S)) (kf := k0 false true) (fun K n hn => ?_) (fun K n hn hp => ?_) (fun K n hn hp => ?_) (show S.length < N by omega)
  · simp only [Zq8_l1_0_0]
    rw [ilt_lenf (by rw [cast_len]; exact hn), br_f]
  · have bk := hb n hn
    have hw : clN op (S.getD i 0) (S.getD j 0) (S.getD n 0) < 2 ^ m := clN_lt bi bj bk
    unfold clP at hp
    simp only [Zq8_l1_0_0]
    rw [ilt_len (by rw [cast_len]; exact hn), br_t, inb_n (by rw [cast_len]; exact hn), chk_t, rd_cast hn, wrap_succ (by omega)]
    rcases hop with h | h
    · subst h
      simp only [clN, if_true] at hp hw
      rw [ieq_t rfl, br_t, andN (by omega) (by omega), andN (by omega) (by omega), andN (by omega) (by omega), orN (Nat.lt_of_le_of_lt Nat.and_le_left (by omega)) (Nat.lt_of_le_of_lt Nat.and_le_left (by omega)), orN (Nat.lt_of_lt_of_le (Nat.or_lt_two_pow (Nat.and_lt_two_pow _ bj) (Nat.and_lt_two_pow _ bk)) (by omega)) (Nat.lt_of_le_of_lt Nat.and_le_left (by omega)), wfI_n (by omega), chk_t, hasI_cast, decide_eq_true hp]
      simp only [Bool.not_true, br_f]
      rw [ieq_f (by decide), br_f]
    · subst h
      simp only [clN] at hp hw
      simp only [show ¬ ((4 : Int) = 1) by decide, show ¬ ((4 : Int) = 2) by decide, show ¬ ((4 : Int) = 3) by decide, if_false] at hp hw
      rw [ieq_f (by decide), br_f, ieq_t rfl, br_t, xor64 (by omega) (by omega), xor64 (Nat.lt_of_lt_of_le (Nat.xor_lt_two_pow bi bj) (by omega)) (by omega), wfI_n (by omega), chk_t, hasI_cast, decide_eq_true hp]
      simp only [Bool.not_true, br_f]
  · have bk := hb n hn
    have hw : clN op (S.getD i 0) (S.getD j 0) (S.getD n 0) < 2 ^ m := clN_lt bi bj bk
    unfold clP at hp
    simp only [Zq8_l1_0_0]
    rw [ilt_len (by rw [cast_len]; exact hn), br_t, inb_n (by rw [cast_len]; exact hn), chk_t, rd_cast hn, wrap_succ (by omega)]
    rcases hop with h | h
    · subst h
      simp only [clN, if_true] at hp hw
      rw [ieq_t rfl, br_t, andN (by omega) (by omega), andN (by omega) (by omega), andN (by omega) (by omega), orN (Nat.lt_of_le_of_lt Nat.and_le_left (by omega)) (Nat.lt_of_le_of_lt Nat.and_le_left (by omega)), orN (Nat.lt_of_lt_of_le (Nat.or_lt_two_pow (Nat.and_lt_two_pow _ bj) (Nat.and_lt_two_pow _ bk)) (by omega)) (Nat.lt_of_le_of_lt Nat.and_le_left (by omega)), wfI_n (by omega), chk_t, hasI_cast, decide_eq_false hp]
      simp only [Bool.not_false, br_t]
    · subst h
      simp only [clN] at hp hw
      simp only [show ¬ ((4 : Int) = 1) by decide, show ¬ ((4 : Int) = 2) by decide, show ¬ ((4 : Int) = 3) by decide, if_false] at hp hw
      rw [ieq_f (by decide), br_f, ieq_t rfl, br_t, xor64 (by omega) (by omega), xor64 (Nat.lt_of_lt_of_le (Nat.xor_lt_two_pow bi bj) (by omega)) (by omega), wfI_n (by omega), chk_t, hasI_cast, decide_eq_false hp]
      simp only [Bool.not_false, br_t]
theorem closed_j {R : Type} {N m : Nat} {op : Int} {S : List Nat} {k0 : Bool → Bool → Option R} {k1 : Int → Int → Int → List Int → List Int → Option R} {x6 x7 : Int} (hm : m ≤ 6) (hS : ∀ n ∈ S, n < 2 ^ m) (hl : S.length ≤ 64) (hop : 1 ≤ op ∧ op ≤ 4) {i : Nat} (hi : i < S.length) (hN : 1048577 ≤ N) :
    Zq8_l1_0 N k0 k1 N op ((S.getD i 0 : Nat) : Int) x6 x7 (tLen (castL S)) 0 (castL S) (castL S) = open Classical in if ∀ j, j < S.length → ∀ k, k < S.length → clP op S i j k then k1 op x6 x7 (castL S) (castL S) else k0 false true := by
  classical
  have h64 := pow_le64 hm
  have hb : ∀ i, i < S.length → S.getD i 0 < 2 ^ m := fun i hi => hS _ (getD_mem hi)
  have bi := hb i hi
  have same : ∀ n, n < S.length → (op = 2 ∨ op = 3) → ((∀ k, k < S.length → clP op S i n k) ↔ clN op (S.getD i 0) (S.getD n 0) 0 ∈ S) := fun n hn h => by
    have e : ∀ k, clN op (S.getD i 0) (S.getD n 0) k = clN op (S.getD i 0) (S.getD n 0) 0 := fun k => by
      rcases h with h | h <;> (subst h; rfl)
    unfold clP
    constructor
    · intro h2
      have := h2 n hn
      rwa [e] at this
    · intro h2 k hk
      rw [e]
      exact h2
  refine loop_all_if (P := ∀ j, j < S.length → ∀ k, k < S.length → clP op S i j k) (m := S.length) (L := fun K n => Zq8_l1_0 N k0 k1 K op ((S.getD i 0 : Nat) : Int) x6 x7 (tLen (castL S)) (n : Int) (castL S) (castL S)) (fun j => ∀ k, k < S.length → clP op S i j k) Iff.rfl (kt := k1 op x6 x7 (castL S) (castL S)) (kf := k0 false true) (fun K n hn => ?_) (fun K n hn hp => ?_) (fun K n hn hp => ?_) (show S.length < N by omega)
  · simp only [Zq8_l1_0]
    rw [ilt_lenf (by rw [cast_len]; exact hn), br_f]
  · have bj := hb n hn
    have hws : IntKind.i64.wrap ((n : Int) + 1) = ((n + 1 : Nat) : Int) := wrap_succ (by omega)
    simp only [Zq8_l1_0]
    rw [ilt_len (by rw [cast_len]; exact hn), br_t, inb_n (by rw [cast_len]; exact hn), chk_t, rd_cast hn]
    by_cases h2 : op = 2
    · have hp := (same n hn (.inl h2)).1 hp
      subst h2
      simp only [clN, show ¬ ((2 : Int) = 1) by decide, if_false, if_true] at hp
      rw [ieq_t rfl, br_t, andN (by omega) (by omega), wfI_n (Nat.lt_of_le_of_lt Nat.and_le_left (by omega)), chk_t, hasI_cast, decide_eq_true hp, ieq_f (by decide), br_f, br_t, hws]
      rfl
    · by_cases h3 : op = 3
      · have hp := (same n hn (.inr h3)).1 hp
        subst h3
        simp only [clN, show ¬ ((3 : Int) = 1) by decide, show ¬ ((3 : Int) = 2) by decide, if_false, if_true] at hp
        rw [ieq_f (by decide), br_f, ieq_t rfl, br_t, orN (by omega) (by omega), wfI_n (Nat.lt_of_lt_of_le (Nat.or_lt_two_pow bi bj) (by omega)), chk_t, hasI_cast, decide_eq_true hp, br_f, br_t, hws]
        rfl
      · have hop' : op = 1 ∨ op = 4 := by omega
        simp only [ieq_f h2, ieq_f h3, br_f]
        have := closed_k (N := N) (k0 := fun x10 x11 => k0 x10 x11) (k1 := fun x12 x13 x14 x15 x16 x17 x18 x19 o6 o7 => Zq8_l1_0 N k0 k1 K x12 x13 x14 x15 x16 (IntKind.i64.wrap (x17 + 1)) o6 o7) (x3 := x6) (x4 := x7) (x5 := tLen (castL S)) (x6 := (n : Int)) (x7 := op) (x8 := false) hm hS hl hop' hi hn hN
        rw [if_pos hp] at this
        simp only [hws] at this
        exact this
  · have bj := hb n hn
    have hws : IntKind.i64.wrap ((n : Int) + 1) = ((n + 1 : Nat) : Int) := wrap_succ (by omega)
    simp only [Zq8_l1_0]
    rw [ilt_len (by rw [cast_len]; exact hn), br_t, inb_n (by rw [cast_len]; exact hn), chk_t, rd_cast hn]
    by_cases h2 : op = 2
    · have hp := fun q => hp ((same n hn (.inl h2)).2 q)
      subst h2
      simp only [clN, show ¬ ((2 : Int) = 1) by decide, if_false, if_true] at hp
      rw [ieq_t rfl, br_t, andN (by omega) (by omega), wfI_n (Nat.lt_of_le_of_lt Nat.and_le_left (by omega)), chk_t, hasI_cast, decide_eq_false hp]
      rfl
    · by_cases h3 : op = 3
      · have hp := fun q => hp ((same n hn (.inr h3)).2 q)
        subst h3
        simp only [clN, show ¬ ((3 : Int) = 1) by decide, show ¬ ((3 : Int) = 2) by decide, if_false, if_true] at hp
        rw [ieq_f (by decide), br_f, ieq_t rfl, br_t, orN (by omega) (by omega), wfI_n (Nat.lt_of_lt_of_le (Nat.or_lt_two_pow bi bj) (by omega)), chk_t, hasI_cast, decide_eq_false hp]
        rfl
      · have hop' : op = 1 ∨ op = 4 := by omega
        simp only [ieq_f h2, ieq_f h3, br_f]
        have := closed_k (N := N) (k0 := fun x10 x11 => k0 x10 x11) (k1 := fun x12 x13 x14 x15 x16 x17 x18 x19 o6 o7 => Zq8_l1_0 N k0 k1 K x12 x13 x14 x15 x16 (IntKind.i64.wrap (x17 + 1)) o6 o7) (x3 := x6) (x4 := x7) (x5 := tLen (castL S)) (x6 := (n : Int)) (x7 := op) (x8 := false) hm hS hl hop' hi hn hN
        rw [if_neg hp] at this
        exact this
theorem closed_i {R : Type} {N m : Nat} {op : Int} {S : List Nat} {k0 : Bool → Bool → Option R} {k1 : Unit → Option R} (hm : m ≤ 6) (hS : ∀ n ∈ S, n < 2 ^ m) (hl : S.length ≤ 64) (hop : 1 ≤ op ∧ op ≤ 4) (hN : 1048577 ≤ N) :
    Zq8_l1 N k0 k1 N op (tLen (castL S)) 0 (castL S) (castL S) = open Classical in if ∀ i, i < S.length → ∀ j, j < S.length → ∀ k, k < S.length → clP op S i j k then k1 () else k0 false true := by
  classical
  refine loop_all_if (P := ∀ i, i < S.length → ∀ j, j < S.length → ∀ k, k < S.length → clP op S i j k) (m := S.length) (L := fun K n => Zq8_l1 N k0 k1 K op (tLen (castL S)) (n : Int) (castL S) (castL S)) (fun i => ∀ j, j < S.length → ∀ k, k < S.length → clP op S i j k) Iff.rfl (kt := k1 ()) (kf := k0 false true) (fun K n hn => ?_) (fun K n hn hp => ?_) (fun K n hn hp => ?_) (show S.length < N by omega)
  · simp only [Zq8_l1]
    rw [ilt_lenf (by rw [cast_len]; exact hn), br_f]
  · have hws : IntKind.i64.wrap ((n : Int) + 1) = ((n + 1 : Nat) : Int) := wrap_succ (by omega)
    simp only [Zq8_l1]
    rw [ilt_len (by rw [cast_len]; exact hn), br_t, inb_n (by rw [cast_len]; exact hn), chk_t, rd_cast hn, closed_j hm hS hl hop hn hN, if_pos hp, hws]
  · simp only [Zq8_l1]
    rw [ilt_len (by rw [cast_len]; exact hn), br_t, inb_n (by rw [cast_len]; exact hn), chk_t, rd_cast hn, closed_j hm hS hl hop hn hN, if_neg hp]
def closedP (f : Int × List (List Int)) (op : Int) : Prop := ∀ a b c, a ∈ solsN f.1.toNat f.2 → b ∈ solsN f.1.toNat f.2 → c ∈ solsN f.1.toNat f.2 → solves (rowB f.1.toNat (clN op a b c)) f.2
noncomputable def closedV (f : Int × List (List Int)) (op : Int) : Bool × Bool := open Classical in if goodF f ∧ 1 ≤ op ∧ op ≤ 4 then (decide (closedP f op), true) else (false, false)
theorem getD_ex {S : List Nat} {a : Nat} (h : a ∈ S) : ∃ i, i < S.length ∧ S.getD i 0 = a := by
  obtain ⟨i, hi, e⟩ := List.getElem_of_mem h
  exact ⟨i, hi, by simp [hi, e]⟩
theorem closed_iff {m : Nat} {cs : List (List Int)} {op : Int} : closedP ((m : Int), cs) op ↔ ∀ i, i < (solsN m cs).length → ∀ j, j < (solsN m cs).length → ∀ k, k < (solsN m cs).length → clP op (solsN m cs) i j k := by
  have hS : ∀ n ∈ solsN m cs, n < 2 ^ m := fun n hn => (mem_solsN.1 hn).1
  unfold closedP clP
  simp only [Int.toNat_natCast]
  constructor
  · intro h i hi j hj k hk
    exact mem_solsN.2 ⟨clN_lt (hS _ (getD_mem hi)) (hS _ (getD_mem hj)) (hS _ (getD_mem hk)), h _ _ _ (getD_mem hi) (getD_mem hj) (getD_mem hk)⟩
  · intro h a b c ha hb hc
    obtain ⟨i, hi, rfl⟩ := getD_ex ha
    obtain ⟨j, hj, rfl⟩ := getD_ex hb
    obtain ⟨k, hk, rfl⟩ := getD_ex hc
    exact (mem_solsN.1 (h i hi j hj k hk)).2
theorem solsN_len {m : Nat} (hm : m ≤ 6) (cs : List (List Int)) : (solsN m cs).length ≤ 64 := by
  have h64 := pow_le64 hm
  unfold solsN
  exact Nat.le_trans (List.length_filter_le ..) (by simpa using h64)
theorem Closed_impl {N : Nat} {f : Int × List (List Int)} {op : Int} (hl : f.2.length ≤ 1048576) (hc : ∀ c ∈ f.2, c.length ≤ 1048576) (hN : 1048577 ≤ N) : Zq8 N f op = some (((closedV f op).1, (closedV f op).2, ()), ()) := by
  classical
  unfold Zq8 closedV
  simp only [show ((f.1, f.2) : Int × List (List Int)) = f from rfl]
  rw [Zq9_eq hl hc hN, bind_some', between_eq, bind_some']
  by_cases hg : goodF f
  · rw [decide_eq_true hg]
    simp only [Bool.not_true, br_f]
    by_cases hop : 1 ≤ op ∧ op ≤ 4
    · rw [decide_eq_true hop, if_pos ⟨hg, hop⟩]
      simp only [Bool.not_true, br_f]
      rw [impl_sols_eq hg hl hc hN, bind_some']
      simp only []
      have h0 := hg.1
      obtain ⟨v, cs⟩ := f
      simp only at h0 hl hc
      obtain ⟨m, rfl⟩ : ∃ m : Nat, v = m := ⟨v.toNat, by omega⟩
      have hm : m ≤ 6 := by omega
      rw [solsL_rows]
      have hS : ∀ n ∈ solsN m cs, n < 2 ^ m := fun n hn => (mem_solsN.1 hn).1
      have hSl := solsN_len hm cs
      rw [closed_l0 hm hS hSl hN, closed_i hm hS hSl hop hN]
      by_cases h : closedP ((m : Int), cs) op
      · rw [decide_eq_true h, if_pos (closed_iff.1 h)]
      · rw [decide_eq_false h, if_neg fun q => h (closed_iff.2 q)]
    · rw [decide_eq_false hop, if_neg fun q => hop q.2]
      rfl
  · rw [decide_eq_false hg, if_neg fun q => hg q.1]
    rfl
theorem l2State_ok {N : Nat} {s : List Int} (hl : s.length ≤ 24) (hb : ∀ z ∈ s, -99 ≤ z ∧ z ≤ 99) (hN : 1048577 ≤ N) : Zq84 N s = some ((true, ()), ()) := by
  unfold Zq84
  have go : ∀ (d n K : Nat), n + d = s.length → d < K → Zq84_l0 N (fun x => some ((x, ()), ())) (fun state1 => some (((ile (tLen state1) 24), ()), ())) K s (n : Int) = some ((true, ()), ()) := by
    intro d
    induction d with
    | zero =>
      intro n K hd hK
      obtain ⟨K, rfl⟩ := succ_of hK
      simp only [Zq84_l0, ilt_lenf (show ¬ n < s.length by omega), br_f]
      rw [tLen_n, ile_t (by omega)]
    | succ d ih =>
      intro n K hd hK
      obtain ⟨K, rfl⟩ := succ_of hK
      have hn : n < s.length := by omega
      have hz := hb _ (List.getElem_mem hn)
      rw [← rdI_n hn] at hz
      simp only [Zq84_l0, ilt_len hn, br_t, inb_n hn, chk_t]
      rw [l1In_eq, bind_some', decide_eq_true hz, wrap_succ (by omega)]
      simp only [Bool.not_true, br_f]
      exact ih (n + 1) K (by omega) (by omega)
  exact go s.length 0 N (by omega) (by omega)
theorem l2Space_ok {N : Nat} {xs : List (List Int)} {st : List (Int × Int)} (h1 : xs.length ≤ 300) (h2 : st.length ≤ 6000) (hs : ∀ x ∈ xs, x.length ≤ 24 ∧ ∀ z ∈ x, -99 ≤ z ∧ z ≤ 99) (hl : lexSorted xs) (h : okSt xs.length st) (hN : 1048577 ≤ N) : Zq82 N (xs, st) = some ((true, ()), ()) := by
  unfold Zq82
  simp only []
  rw [tLen_n, tLen_n, ilt_f (by omega), br_f, ilt_f (by omega), br_f]
  have go : ∀ (d n K : Nat), n + d = xs.length → d < K → Zq82_l0 N (fun x1 => some ((x1, ()), ())) (fun o o1 => ((Zq80 N o1 (tLen o)).bind fun r => some ((r.1.1, ()), ()))) K (n : Int) xs st = some ((true, ()), ()) := by
    intro d
    induction d with
    | zero =>
      intro n K hd hK
      obtain ⟨K, rfl⟩ := succ_of hK
      simp only [Zq82_l0, ilt_lenf (show ¬ n < xs.length by omega), br_f]
      rw [tLen_n, l2Pairs_big ⟨by omega, by omega⟩ (by omega) hN, bind_some', decide_eq_true (okSt_pair h)]
    | succ d ih =>
      intro n K hd hK
      obtain ⟨K, rfl⟩ := succ_of hK
      have hn : n < xs.length := by omega
      obtain ⟨a1, a2⟩ := hs _ (List.getElem_mem hn)
      simp only [Zq82_l0, ilt_len hn, inb_n hn, br_t, chk_t]
      rw [rdL_n hn, l2State_ok a1 a2 hN, bind_some']
      simp only [Bool.not_true, br_f]
      rw [wrap_succ (by omega)]
      by_cases h0 : 0 < n
      · have hn1 : n - 1 < xs.length := by omega
        obtain ⟨b1, b2⟩ := hs _ (List.getElem_mem hn1)
        have hlt := (List.pairwise_iff_getElem.1 hl) (n - 1) n hn1 hn (by omega)
        rw [ilt_0 h0, br_t, wrap_pred (by omega) h0, inb_n hn1, chk_t, rdL_n hn1, l2Before_eq (by omega) (by omega) hN, bind_some', decide_eq_true hlt]
        simp only [Bool.not_true, br_f]
        exact ih (n + 1) K (by omega) (by omega)
      · rw [ilt_0n h0, br_f]
        exact ih (n + 1) K (by omega) (by omega)
  exact go xs.length 0 N (by omega) (by omega)
theorem rDist_eq {N : Nat} {xs : List (List Int)} {st : List (Int × Int)} {i : Nat} (h1 : xs.length ≤ 300) (h2 : st.length ≤ 6000) (hs : ∀ x ∈ xs, x.length ≤ 24 ∧ ∀ z ∈ x, -99 ≤ z ∧ z ≤ 99) (hl : lexSorted xs) (h : okSt xs.length st) (hi : i < xs.length) (hN : 1048577 ≤ N) :
    Zq42 N (xs, st) (i : Int) = some ((bfsD (nbL xs.length st) xs.length (i : Int), true, ()), ()) := by
  have hn := nbL_ok (n := xs.length) (by omega) h
  have hD := (bfsD_spec hn (in_nat hi)).1
  have hs2 : Zq61 N (xs, st) (i : Int) = some ((bfsD (nbL xs.length st) xs.length (i : Int), true, ()), ()) := by
    unfold Zq61 Zq81 Zq77
    simp only []
    rw [l2Space_ok h1 h2 hs hl h hN, bind_some']
    simp only [br_t]
    rw [tLen_n, wrap_ok (by omega) (by omega), l1In_eq, bind_some', bind_some', decide_eq_true (show 0 ≤ (i : Int) ∧ (i : Int) ≤ (xs.length : Int) - 1 by omega)]
    simp only [Bool.not_true, br_f]
    rw [l2Lists_eq (by omega) (by omega) h hN, bind_some']
    simp only []
    rw [l2Spread_bfs hn (by omega) (in_nat hi) hN, bind_some', bind_some']
  unfold Zq42
  simp only []
  rw [distFrom_eq h1 h2 hs hl h hi hN, bind_some', hs2, bind_some']
  simp only [br_t]
  rw [rInts_eq (by omega) (by omega), bind_some', decide_eq_true rfl]
noncomputable def parX (p : Int × (List (List Int) × List Int)) : List (List Int) := (allB p.1.toNat).filter (evenB p)
theorem mem_parX {p : Int × (List (List Int) × List Int)} (hp : goodP p) {x : List Int} : x ∈ parX p ↔ (x.length = p.1.toNat ∧ ∀ z ∈ x, z = 0 ∨ z = 1) ∧ evenB p x = true := by
  have h0 := hp.1
  unfold parX
  rw [List.mem_filter]
  refine and_congr_left fun _ => ⟨fun h => ⟨allB_row h, allB_bits h⟩, fun ⟨h1, h2⟩ => ?_⟩
  rw [← h1]
  exact mem_allB h2 (by omega)
def looseV (p : Int × (List (List Int) × List Int)) (v : Nat) : Prop := ∀ r ∈ p.2.1, (v : Int) ∉ r
theorem mem_loose {p : Int × (List (List Int) × List Int)} (hp : goodP p) {v : Nat} : (v : Int) ∈ (looseR p).1 ↔ v < p.1.toNat ∧ looseV p v := by
  have key : ∀ (d n : Nat) (o : List Int), (v : Int) ∈ iter (looseStep p.2.1) d n o ↔ (v : Int) ∈ o ∨ (n ≤ v ∧ v < n + d ∧ looseV p v) := by
    intro d
    induction d with
    | zero => intro n o; simp only [iter]; exact ⟨.inl, fun h => h.resolve_right fun q => by omega⟩
    | succ d ih =>
      intro n o
      show (v : Int) ∈ iter (looseStep p.2.1) d (n + 1) (looseStep p.2.1 n o) ↔ _
      rw [ih]
      have hb : (p.2.1.all fun r => !decide ((n : Int) ∈ r)) = true ↔ looseV p n := by
        rw [List.all_eq_true]
        unfold looseV
        exact forall_congr' fun r => forall_congr' fun _ => by simp
      unfold looseStep
      by_cases q : (p.2.1.all fun r => !decide ((n : Int) ∈ r)) = true
      · rw [if_pos q, List.mem_append, List.mem_singleton]
        constructor
        · rintro ((h | h) | h)
          · exact .inl h
          · have : v = n := by omega
            subst this
            exact .inr ⟨Nat.le_refl _, by omega, hb.1 q⟩
          · exact .inr ⟨by omega, by omega, h.2.2⟩
        · rintro (h | h)
          · exact .inl (.inl h)
          · by_cases e : v = n
            · exact .inl (.inr (by omega))
            · exact .inr ⟨by omega, by omega, h.2.2⟩
      · rw [if_neg q]
        constructor
        · rintro (h | h)
          · exact .inl h
          · exact .inr ⟨by omega, by omega, h.2.2⟩
        · rintro (h | h)
          · exact .inl h
          · by_cases e : v = n
            · subst e
              exact absurd (hb.2 h.2.2) q
            · exact .inr ⟨by omega, by omega, h.2.2⟩
  unfold looseR
  rw [if_pos hp]
  simp only
  rw [key]
  simp
theorem sum_turn {b : List Int} {v : Nat} (hv : v < b.length) (hb : ∀ x ∈ b, x = 0 ∨ x = 1) : ∀ row : List Int, row.Nodup → (∀ z ∈ row, 0 ≤ z) → (sumAt (tSet b (v : Int) (1 - rdI b (v : Int))) row - sumAt b row) % 2 = if (v : Int) ∈ row then 1 else 0 := by
  intro row
  induction row with
  | nil => intro _ _; simp [sumAt]
  | cons z r ih =>
    intro hn hz
    obtain ⟨n1, n2⟩ := List.nodup_cons.1 hn
    have h1 := ih n2 fun y hy => hz y (List.mem_cons_of_mem _ hy)
    have h2 := rdI_bit hb z
    have h3 := rdI_set hv (1 - rdI b (v : Int)) z (hz z (List.mem_cons_self ..))
    simp only [sumAt]
    rw [h3]
    by_cases e : z = (v : Int)
    · rw [if_pos e]
      subst e
      rw [if_neg n1] at h1
      rw [if_pos (List.mem_cons_self ..)]
      omega
    · rw [if_neg e]
      by_cases q : (v : Int) ∈ r
      · rw [if_pos q] at h1
        rw [if_pos (List.mem_cons_of_mem _ q)]
        omega
      · rw [if_neg q] at h1
        rw [if_neg fun h => (List.mem_cons.1 h).elim (fun h => e h.symm) q]
        omega
theorem goodP_row {p : Int × (List (List Int) × List Int)} (hp : goodP p) {r : Nat} (hr : r < p.2.1.length) : (rdL p.2.1 (r : Int)).Nodup ∧ (∀ z ∈ rdL p.2.1 (r : Int), 0 ≤ z ∧ z < p.1) ∧ rdL p.2.1 (r : Int) ∈ p.2.1 := by
  have hm : rdL p.2.1 (r : Int) ∈ p.2.1 := by rw [rdL_n hr]; exact List.getElem_mem hr
  have h := hp.2.2.2 _ hm
  have h0 := hp.1
  have hr' : rising 0 (((p.1.toNat : Nat) : Int) - 1) (rdL p.2.1 (r : Int)) := by
    have e : ((p.1.toNat : Nat) : Int) = p.1 := by omega
    rw [e]
    exact h
  refine ⟨(risingP hr').imp fun h e => by omega, fun z hz => ?_, hm⟩
  have := rising_in h z hz
  omega
theorem turn_bits {b : List Int} {v : Nat} (hv : v < b.length) (hb : ∀ x ∈ b, x = 0 ∨ x = 1) : ∀ x ∈ tSet b (v : Int) (1 - rdI b (v : Int)), x = 0 ∨ x = 1 := by
  intro x hx
  have := rdI_bit hb (v : Int)
  rw [tSet_n] at hx
  rcases List.mem_or_eq_of_mem_set hx with h | rfl
  · exact hb x h
  · omega
theorem turn_even {p : Int × (List (List Int) × List Int)} (hp : goodP p) {x : List Int} (hx : x ∈ parX p) {v : Nat} (hv : v < p.1.toNat) : tSet x (v : Int) (1 - rdI x (v : Int)) ∈ parX p ↔ looseV p v := by
  obtain ⟨⟨l1, l2⟩, l3⟩ := (mem_parX hp).1 hx
  rw [mem_parX hp]
  have hlen : (tSet x (v : Int) (1 - rdI x (v : Int))).length = p.1.toNat := by simp [tSet, l1]
  have e3 := of_decide_eq_true (show decide (∀ r, r < p.2.1.length → evenAt p.2.1 p.2.2 x r) = true from l3)
  have st : ∀ r, r < p.2.1.length → (sumAt (tSet x (v : Int) (1 - rdI x (v : Int))) (rdL p.2.1 (r : Int)) - sumAt x (rdL p.2.1 (r : Int))) % 2 = if (v : Int) ∈ rdL p.2.1 (r : Int) then 1 else 0 := fun r hr => by
    obtain ⟨q1, q2, _⟩ := goodP_row hp hr
    exact sum_turn (by omega) l2 _ q1 fun z hz => (q2 z hz).1
  constructor
  · rintro ⟨_, h⟩ row hrow hv2
    have e4 := of_decide_eq_true (show decide (∀ r, r < p.2.1.length → evenAt p.2.1 p.2.2 (tSet x (v : Int) (1 - rdI x (v : Int))) r) = true from h)
    obtain ⟨r, hr, rfl⟩ := List.getElem_of_mem hrow
    have a1 := e3 r hr
    have a2 := e4 r hr
    have a3 := st r hr
    unfold evenAt at a1 a2
    rw [rdL_n hr] at a1 a2 a3
    rw [if_pos hv2] at a3
    omega
  · intro h
    refine ⟨⟨hlen, turn_bits (by omega) l2⟩, decide_eq_true fun r hr => ?_⟩
    have a1 := e3 r hr
    have a3 := st r hr
    rw [if_neg (h _ (goodP_row hp hr).2.2)] at a3
    unfold evenAt at a1 ⊢
    omega
theorem par_sym {p : Int × (List (List Int) × List Int)} (hp : goodP p) : ∀ x ∈ parX p, ∀ y ∈ parX p, isCh x y = true → isCh y x = true := fun x hx y hy h =>
  isCh_symm (by rw [((mem_parX hp).1 hx).1.1, ((mem_parX hp).1 hy).1.1]) h
theorem par_walk {p : Int × (List (List Int) × List Int)} (hp : goodP p) (hn : (parX p).length ≤ 1048576) {i : Int} (hi : InN (parX p).length i) {k : Nat} {j : Int} (h : Wl (nbL (parX p).length (stepsL isCh (parX p))) i k j) :
    InN (parX p).length j ∧ (apartL (rdL (parX p) i) (rdL (parX p) j)).length ≤ k ∧ ∀ v ∈ apartL (rdL (parX p) i) (rdL (parX p) j), ∃ n : Nat, v = (n : Int) ∧ looseV p n := by
  have hmem : ∀ {u : Int}, InN (parX p).length u → rdL (parX p) u ∈ parX p := fun hu => by
    obtain ⟨n, h, rfl⟩ := nat_of hu
    rw [rdL_n h]
    exact List.getElem_mem h
  induction h with
  | base =>
    refine ⟨hi, ?_, ?_⟩
    · have : apartL (rdL (parX p) i) (rdL (parX p) i) = [] := List.eq_nil_iff_forall_not_mem.2 fun z hz => by
        obtain ⟨n, _, h, _⟩ := mem_apart.1 hz
        exact h rfl
      rw [this]
      exact Nat.zero_le _
    · intro v hv
      obtain ⟨n, _, h, _⟩ := mem_apart.1 hv
      exact absurd rfl h
  | @step k y z _ hz ih =>
    obtain ⟨i1, i2, i3⟩ := ih
    obtain ⟨m1, m2, hc, hzn⟩ := near_step (par_sym hp) i1 hz
    obtain ⟨⟨la, ba⟩, _⟩ := (mem_parX hp).1 (hmem hi)
    obtain ⟨⟨lb, bb⟩, _⟩ := (mem_parX hp).1 m1
    obtain ⟨⟨lc, bc⟩, _⟩ := (mem_parX hp).1 m2
    obtain ⟨v, hv, ha, ht⟩ := turn_one (m := p.1.toNat) lb lc bb bc hc
    have hl : looseV p v := (turn_even hp m1 hv).1 (by rw [ht]; exact m2)
    refine ⟨hzn, Nat.le_trans (apart_tri (by omega) hc) (by omega), fun w hw => ?_⟩
    obtain ⟨n, h1, h2, rfl⟩ := mem_apart.1 hw
    by_cases e : rdI (rdL (parX p) i) (n : Int) = rdI (rdL (parX p) y) (n : Int)
    · have : (n : Int) ∈ apartL (rdL (parX p) y) (rdL (parX p) z) := mem_apart.2 ⟨n, by omega, by rw [← e]; exact h2, rfl⟩
      rw [ha, List.mem_singleton] at this
      have : n = v := by omega
      exact ⟨n, rfl, this ▸ hl⟩
    · exact i3 _ (mem_apart.2 ⟨n, h1, e, rfl⟩)
theorem par_path {p : Int × (List (List Int) × List Int)} (hp : goodP p) : ∀ (n : Nat) (b a : List Int), b ∈ parX p → a ∈ parX p → (apartL b a).length = n → (∀ v ∈ apartL b a, ∃ n : Nat, v = (n : Int) ∧ looseV p n) →
    Wl (nbL (parX p).length (stepsL isCh (parX p))) (((parX p).idxOf b : Nat) : Int) n (((parX p).idxOf a : Nat) : Int) := by
  intro n
  induction n with
  | zero =>
    intro b a hb ha hlen _
    obtain ⟨⟨lb, _⟩, _⟩ := (mem_parX hp).1 hb
    obtain ⟨⟨la, _⟩, _⟩ := (mem_parX hp).1 ha
    have : b = a := apart_nil (by omega) (List.eq_nil_of_length_eq_zero hlen)
    subst this
    exact .base
  | succ n ih =>
    intro b a hb ha hlen hl
    obtain ⟨⟨lb, bb⟩, _⟩ := (mem_parX hp).1 hb
    obtain ⟨⟨la, ba⟩, _⟩ := (mem_parX hp).1 ha
    obtain ⟨x, hx⟩ := List.exists_mem_of_length_pos (show 0 < (apartL b a).length by omega)
    obtain ⟨v, hv, hne, rfl⟩ := mem_apart.1 hx
    obtain ⟨v', e, hlo⟩ := hl _ hx
    have : v = v' := by omega
    subst this
    have hY := (turn_even hp hb (show v < p.1.toNat by omega)).2 hlo
    have hrd : ∀ i : Nat, rdI (tSet b (v : Int) (1 - rdI b (v : Int))) (i : Int) = if (i : Int) = (v : Int) then 1 - rdI b (v : Int) else rdI b (i : Int) := fun i => rdI_set hv _ (i : Int) (by omega)
    have hlY : (tSet b (v : Int) (1 - rdI b (v : Int))).length = b.length := by simp [tSet]
    have hv2 : rdI a (v : Int) = 1 - rdI b (v : Int) := by
      have q1 := rdI_bit bb (v : Int)
      have q2 := rdI_bit ba (v : Int)
      omega
    generalize tSet b (v : Int) (1 - rdI b (v : Int)) = Y at hY hrd hlY
    have e1 : ∀ z, z ∈ apartL b Y ↔ z = (v : Int) := fun z => by
      rw [mem_apart]
      constructor
      · rintro ⟨i, hi, h1, rfl⟩
        rw [hrd] at h1
        by_cases q : (i : Int) = (v : Int)
        · exact q
        · rw [if_neg q] at h1; exact absurd rfl h1
      · rintro rfl
        refine ⟨v, hv, ?_, rfl⟩
        rw [hrd, if_pos rfl]
        omega
    have hch : isCh b Y = true := by
      refine decide_eq_true ?_
      have hp1 : (apartL b Y).Perm [(v : Int)] := (List.perm_ext_iff_of_nodup (apart_nodup b Y) (by simp)).2 fun z => by rw [e1, List.mem_singleton]
      simpa using hp1.length_eq
    have e2 : ∀ z, z ∈ apartL Y a ↔ z ∈ apartL b a ∧ z ≠ (v : Int) := fun z => by
      rw [mem_apart, mem_apart]
      constructor
      · rintro ⟨i, hi, h1, rfl⟩
        rw [hrd] at h1
        by_cases q : (i : Int) = (v : Int)
        · rw [if_pos q, q] at h1; exact absurd hv2.symm h1
        · rw [if_neg q] at h1; exact ⟨⟨i, by omega, h1, rfl⟩, q⟩
      · rintro ⟨⟨i, hi, h1, rfl⟩, q⟩
        exact ⟨i, by omega, by rw [hrd, if_neg q]; exact h1, rfl⟩
    have hlen2 : (apartL Y a).length = n := by
      have hp2 : (apartL Y a).Perm ((apartL b a).erase (v : Int)) := (List.perm_ext_iff_of_nodup (apart_nodup Y a) ((apart_nodup b a).erase _)).2 fun z => by rw [e2, (apart_nodup b a).mem_erase_iff, and_comm]
      rw [hp2.length_eq, List.length_erase_of_mem hx]
      omega
    have hne2 : b ≠ Y := fun e => by
      have := hrd v
      rw [if_pos rfl, ← e] at this
      have := rdI_bit bb (v : Int)
      omega
    refine wl_head (step_near (par_sym hp) hb hY hne2 hch) (ih Y a hY ha hlen2 fun w hw => hl w ((e2 w).1 hw).1)
theorem par_dist {p : Int × (List (List Int) × List Int)} (hp : goodP p) (hn : (parX p).length ≤ 1048576) (hnd : (parX p).Nodup) {i j : Nat} (hi : i < (parX p).length) (hj : j < (parX p).length) :
    ((∀ v ∈ apartL (rdL (parX p) (i : Int)) (rdL (parX p) (j : Int)), ∃ n : Nat, v = (n : Int) ∧ looseV p n) → rdI (bfsD (nbL (parX p).length (stepsL isCh (parX p))) (parX p).length (i : Int)) (j : Int) = ((apartL (rdL (parX p) (i : Int)) (rdL (parX p) (j : Int))).length : Int)) ∧
    (¬ (∀ v ∈ apartL (rdL (parX p) (i : Int)) (rdL (parX p) (j : Int)), ∃ n : Nat, v = (n : Int) ∧ looseV p n) → rdI (bfsD (nbL (parX p).length (stepsL isCh (parX p))) (parX p).length (i : Int)) (j : Int) < 0) := by
  have hok := stepsL_ok (p := isCh) (xs := parX p)
  have hl := nbL_ok (n := (parX p).length) hn hok
  obtain ⟨s1, s2, s3, s4, s5, s6⟩ := bfsD_spec hl (in_nat hi)
  have mi : rdL (parX p) (i : Int) ∈ parX p := by rw [rdL_n hi]; exact List.getElem_mem hi
  have mj : rdL (parX p) (j : Int) ∈ parX p := by rw [rdL_n hj]; exact List.getElem_mem hj
  have ii : (parX p).idxOf (rdL (parX p) (i : Int)) = i := by rw [rdL_n hi]; exact hnd.idxOf_getElem i hi
  have ij : (parX p).idxOf (rdL (parX p) (j : Int)) = j := by rw [rdL_n hj]; exact hnd.idxOf_getElem j hj
  constructor
  · intro h
    have w := par_path hp _ _ _ mi mj rfl h
    rw [ii, ij] at w
    obtain ⟨_, a1, a2⟩ := s6 _ _ w
    have w2 := s5 _ (in_nat hj) a1
    have := (par_walk hp hn (in_nat hi) w2).2.1
    omega
  · intro h
    refine Int.not_le.1 fun h0 => h ?_
    exact (par_walk hp hn (in_nat hi) (s5 _ (in_nat hj) h0)).2.2
theorem clauseTab : ((List.range 7).all fun m => (allB m).all fun b0 => (allB m).all fun b => ((clauseF b0).any (meets b)) == !(b == b0)) = true := by kernel_rfl
theorem clause_meets {m : Nat} (hm : m ≤ 6) {b0 b : List Int} (h0 : b0 ∈ allB m) (h : b ∈ allB m) : (clauseF b0).any (meets b) = true ↔ b ≠ b0 := by
  have h1 := List.all_eq_true.1 clauseTab m (List.mem_range.2 (by omega))
  have h2 := List.all_eq_true.1 h1 b0 h0
  have h3 := List.all_eq_true.1 h2 b h
  rw [beq_iff_eq] at h3
  rw [h3]
  simp
def litB (v : Int) (c : List Int) (k : Nat) : Bool := (!(rdI c k == 0) && decide (-v ≤ rdI c k)) && (decide (rdI c k ≤ v) && (decide (k = 0) || decide (rdI c ((k - 1 : Nat) : Int) < rdI c k)))
theorem clauseOkTab : ((List.range 7).all fun m => (allB m).all fun b => (List.range (clauseF b).length).all fun k => litB (m : Int) (clauseF b) k) = true := by kernel_rfl
theorem clause_ok {m : Nat} (hm : m ≤ 6) {b : List Int} (h : b ∈ allB m) : clauseOk (m : Int) (clauseF b) := by
  have h1 := List.all_eq_true.1 clauseOkTab m (List.mem_range.2 (by omega))
  have h2 := List.all_eq_true.1 h1 b h
  intro k hk
  have h3 := List.all_eq_true.1 h2 k (List.mem_range.2 hk)
  unfold litB at h3
  simp only [Bool.and_eq_true, Bool.or_eq_true, decide_eq_true_eq, Bool.not_eq_true', beq_eq_false_iff_ne] at h3
  obtain ⟨⟨a1, a2⟩, a3, a4⟩ := h3
  exact ⟨a1, a2, a3, fun h0 => a4.resolve_left (by omega)⟩
theorem mem_formR {m : Nat} {ss : List (List Int)} {c : List Int} : c ∈ formR m ss ↔ ∃ b, b ∈ allB m ∧ b ∉ ss ∧ c = clauseF b := by
  have key : ∀ (xs o : List (List Int)), c ∈ xs.foldl (formStep ss) o ↔ c ∈ o ∨ ∃ b, b ∈ xs ∧ b ∉ ss ∧ c = clauseF b := by
    intro xs
    induction xs with
    | nil => intro o; simp
    | cons b xs ih =>
      intro o
      rw [List.foldl_cons, ih]
      unfold formStep
      by_cases h : b ∈ ss
      · rw [if_pos h]
        constructor
        · rintro (q | ⟨b', q1, q2⟩)
          · exact .inl q
          · exact .inr ⟨b', List.mem_cons_of_mem _ q1, q2⟩
        · rintro (q | ⟨b', q1, q2⟩)
          · exact .inl q
          · rcases List.mem_cons.1 q1 with rfl | q1
            · exact absurd h q2.1
            · exact .inr ⟨b', q1, q2⟩
      · rw [if_neg h, List.mem_append, List.mem_singleton]
        constructor
        · rintro ((q | q) | ⟨b', q1, q2⟩)
          · exact .inl q
          · exact .inr ⟨b, List.mem_cons_self .., h, q⟩
          · exact .inr ⟨b', List.mem_cons_of_mem _ q1, q2⟩
        · rintro (q | ⟨b', q1, q2⟩)
          · exact .inl (.inl q)
          · rcases List.mem_cons.1 q1 with rfl | q1
            · exact .inl (.inr q2.2)
            · exact .inr ⟨b', q1, q2⟩
  unfold formR
  rw [key]
  simp
theorem form_solves {m : Nat} (hm : m ≤ 6) {ss : List (List Int)} {b : List Int} (h : b ∈ allB m) : solves b (formR m ss) ↔ b ∈ ss := by
  unfold solves
  constructor
  · intro q
    refine Classical.byContradiction fun hn => ?_
    exact (clause_meets hm h h).1 (q _ (mem_formR.2 ⟨b, h, hn, rfl⟩)) rfl
  · intro hs c hc
    obtain ⟨b0, h0, hn, rfl⟩ := mem_formR.1 hc
    exact (clause_meets hm h0 h).2 fun e => hn (e ▸ hs)
theorem formR_len {m : Nat} (hm : m ≤ 6) (ss : List (List Int)) : (formR m ss).length ≤ 64 := by
  have h64 := pow_le64 hm
  have key : ∀ (xs o : List (List Int)), (xs.foldl (formStep ss) o).length ≤ o.length + xs.length := by
    intro xs
    induction xs with
    | nil => intro o; simp
    | cons b xs ih =>
      intro o
      have h1 := ih (formStep ss o b)
      have h2 := formStep_len (ss := ss) (o := o) (b := b)
      rw [List.foldl_cons, List.length_cons]
      omega
  have := key (allB m) []
  rw [allB_len] at this
  unfold formR
  simp only [List.length_nil] at this
  omega
theorem formR_good {m : Nat} (hm : m ≤ 6) (ss : List (List Int)) : goodF ((m : Int), formR m ss) := by
  refine ⟨⟨by simp only; omega, by simp only; omega⟩, formR_len hm ss, fun i hi => ?_⟩
  simp only at hi
  have hmem : rdL (formR m ss) (i : Int) ∈ formR m ss := by rw [rdL_n hi]; exact List.getElem_mem hi
  obtain ⟨b, h1, _, e⟩ := mem_formR.1 hmem
  simp only
  rw [e]
  exact clause_ok hm h1
theorem rowB_mem {m n : Nat} (hn : n < 2 ^ m) : rowB m n ∈ allB m := by
  rw [allB_rows]
  exact List.mem_map.2 ⟨n, List.mem_range.2 hn, rfl⟩
theorem bz3 (a b c : Bool) : (bz ((a ^^ b) ^^ c) - bz a - bz b - bz c) % 2 = 0 := by cases a <;> cases b <;> cases c <;> decide
theorem sum_three {m x y z : Nat} : ∀ row : List Int, (∀ v ∈ row, 0 ≤ v ∧ v < (m : Int)) → (sumAt (rowB m ((x ^^^ y) ^^^ z)) row - sumAt (rowB m x) row - sumAt (rowB m y) row - sumAt (rowB m z) row) % 2 = 0 := by
  intro row
  induction row with
  | nil => intro _; simp [sumAt]
  | cons v r ih =>
    intro h
    have h1 := ih fun w hw => h w (List.mem_cons_of_mem _ hw)
    have h2 := h v (List.mem_cons_self ..)
    obtain ⟨n, rfl⟩ : ∃ n : Nat, v = n := ⟨v.toNat, by omega⟩
    have hn : n < m := by omega
    simp only [sumAt]
    rw [rd_row hn, rd_row hn, rd_row hn, rd_row hn, Nat.testBit_xor, Nat.testBit_xor]
    have := bz3 (x.testBit (m - 1 - n)) (y.testBit (m - 1 - n)) (z.testBit (m - 1 - n))
    omega
theorem par_closed {p : Int × (List (List Int) × List Int)} (hp : goodP p) : closedP (parF p).1 4 := by
  have h0 := hp.1
  have hm : p.1.toNat ≤ 6 := by omega
  have e1 : (parF p).1 = (p.1, formR p.1.toNat (parX p)) := by unfold parF; rw [if_pos hp]; rfl
  rw [e1]
  intro a b c ha hb hc
  simp only at ha hb hc ⊢
  have key : ∀ {n : Nat}, n ∈ solsN p.1.toNat (formR p.1.toNat (parX p)) → n < 2 ^ p.1.toNat ∧ evenB p (rowB p.1.toNat n) = true := fun {n} hn => by
    obtain ⟨h1, h2⟩ := mem_solsN.1 hn
    exact ⟨h1, ((mem_parX hp).1 ((form_solves hm (rowB_mem h1)).1 h2)).2⟩
  obtain ⟨a1, a2⟩ := key ha
  obtain ⟨b1, b2⟩ := key hb
  obtain ⟨c1, c2⟩ := key hc
  have hx : clN 4 a b c = (a ^^^ b) ^^^ c := rfl
  rw [hx]
  have hlt : (a ^^^ b) ^^^ c < 2 ^ p.1.toNat := Nat.xor_lt_two_pow (Nat.xor_lt_two_pow a1 b1) c1
  rw [form_solves hm (rowB_mem hlt)]
  unfold parX
  refine List.mem_filter.2 ⟨rowB_mem hlt, decide_eq_true fun r hr => ?_⟩
  have q1 := of_decide_eq_true (show decide (∀ r, r < p.2.1.length → evenAt p.2.1 p.2.2 (rowB p.1.toNat a) r) = true from a2) r hr
  have q2 := of_decide_eq_true (show decide (∀ r, r < p.2.1.length → evenAt p.2.1 p.2.2 (rowB p.1.toNat b) r) = true from b2) r hr
  have q3 := of_decide_eq_true (show decide (∀ r, r < p.2.1.length → evenAt p.2.1 p.2.2 (rowB p.1.toNat c) r) = true from c2) r hr
  have q4 := sum_three (m := p.1.toNat) (x := a) (y := b) (z := c) (rdL p.2.1 (r : Int)) fun v hv => by
    have := (goodP_row hp hr).2.1 v hv
    omega
  unfold evenAt at q1 q2 q3 ⊢
  omega
theorem par_IsClosed {N : Nat} {p : Int × (List (List Int) × List Int)} (hp : goodP p) (hN : 1048577 ≤ N) : Zq8 N (parF p).1 4 = some ((true, true, ()), ()) := by
  classical
  have h0 := hp.1
  have hm : p.1.toNat ≤ 6 := by omega
  have e1 : (parF p).1 = (p.1, formR p.1.toNat (parX p)) := by unfold parF; rw [if_pos hp]; rfl
  have hg : goodF (parF p).1 := by
    rw [e1]
    have := formR_good hm (parX p)
    rw [show ((p.1.toNat : Nat) : Int) = p.1 by omega] at this
    exact this
  obtain ⟨s1, s2⟩ := parF_small (p := p)
  rw [Closed_impl (by omega) s2 hN]
  unfold closedV
  rw [if_pos ⟨hg, by decide, by decide⟩, decide_eq_true (par_closed hp)]
theorem par_l0_0_0 {R : Type} {N m : Nat} {rows : List (List Int)} {right loose dist : List Int} {xs : List (List Int)} {st : List (Int × Int)} {k0 : Int → Int → Int → Bool → Int → List (List Int) → List Int → List Int → List Int → List (List Int) → List (Int × Int) → Option R} {i j : Nat} (hi : i < xs.length) (hj : j < xs.length) (h1 : (rdL xs (i : Int)).length = m) (h2 : (rdL xs (j : Int)).length = m) (hm : m ≤ 6) (hl : loose.length ≤ 1048576) (hN : 1048577 ≤ N) :
    Zq40_l0_0_0 N k0 N (i : Int) (j : Int) 0 true 0 (m : Int) rows right loose dist xs st = k0 (i : Int) (j : Int) ((apartL (rdL xs (i : Int)) (rdL xs (j : Int))).length : Int) (decide (∀ v ∈ apartL (rdL xs (i : Int)) (rdL xs (j : Int)), v ∈ loose)) (m : Int) rows right loose dist xs st := by
  let q : Nat → Bool := fun v => decide (rdI (rdL xs (i : Int)) (v : Int) ≠ rdI (rdL xs (j : Int)) (v : Int))
  have ea : apartL (rdL xs (i : Int)) (rdL xs (j : Int)) = ((List.range' 0 m).filter q).map fun v : Nat => (v : Int) := by
    unfold apartL
    rw [h1]
  have go : ∀ (d n K : Nat) (c : Int) (s : Bool), n + d = m → d < K → c = (((List.range' 0 n).filter q).length : Int) → s = decide (∀ v ∈ (List.range' 0 n).filter q, (v : Int) ∈ loose) →
      Zq40_l0_0_0 N k0 K (i : Int) (j : Int) c s (n : Int) (m : Int) rows right loose dist xs st = k0 (i : Int) (j : Int) ((apartL (rdL xs (i : Int)) (rdL xs (j : Int))).length : Int) (decide (∀ v ∈ apartL (rdL xs (i : Int)) (rdL xs (j : Int)), v ∈ loose)) (m : Int) rows right loose dist xs st := by
    intro d
    induction d with
    | zero =>
      intro n K c s hd hK hc hs
      obtain ⟨K, rfl⟩ := succ_of hK
      have : n = m := by omega
      subst this
      simp only [Zq40_l0_0_0, ilt_nf (Nat.lt_irrefl n), br_f]
      rw [hc, hs, ea, List.length_map]
      congr 1
      refine decide_eq_decide.2 ?_
      simp only [List.mem_map]
      exact ⟨fun h v ⟨w, hw, e⟩ => e ▸ h w hw, fun h w hw => h _ ⟨w, hw, rfl⟩⟩
    | succ d ih =>
      intro n K c s hd hK hc hs
      obtain ⟨K, rfl⟩ := succ_of hK
      have hn : n < m := by omega
      have hws : IntKind.i64.wrap ((n : Int) + 1) = ((n + 1 : Nat) : Int) := wrap_succ (by omega)
      have hlen : ((List.range' 0 n).filter q).length ≤ n := Nat.le_trans (List.length_filter_le ..) (by simp)
      have hf : (List.range' 0 (n + 1)).filter q = (List.range' 0 n).filter q ++ if q n = true then [n] else [] := by
        rw [List.range'_1_concat, List.filter_append]
        congr 1
        simp only [Nat.zero_add]
        by_cases h : q n = true <;> simp [h]
      simp only [Zq40_l0_0_0, ilt_n hn, br_t, inb_n hi, inb_n hj, inb_n (show n < (rdL xs (i : Int)).length by omega), inb_n (show n < (rdL xs (j : Int)).length by omega), chk_t]
      rw [hws]
      by_cases h : rdI (rdL xs (i : Int)) (n : Int) ≠ rdI (rdL xs (j : Int)) (n : Int)
      · have hq : q n = true := decide_eq_true h
        rw [if_pos hq] at hf
        rw [ine_t h, br_t]
        have hc2 : IntKind.i64.wrap (c + 1) = (((List.range' 0 (n + 1)).filter q).length : Int) := by
          rw [hc, wrap_ok (by omega) (by omega), hf, List.length_append]
          simp
        cases s with
        | true =>
          have hs' := of_decide_eq_true hs.symm
          rw [br_t, rHas_eq hl hN, bind_some']
          refine ih (n + 1) K _ _ (by omega) (by omega) hc2 ?_
          refine decide_eq_decide.2 ?_
          rw [hf]
          constructor
          · intro h3 v hv
            rcases List.mem_append.1 hv with hv | hv
            · exact hs' v hv
            · rw [List.mem_singleton.1 hv]; exact h3
          · intro h3
            exact h3 n (List.mem_append_right _ (List.mem_singleton.2 rfl))
        | false =>
          have hs' := of_decide_eq_false hs.symm
          rw [br_f]
          refine ih (n + 1) K _ _ (by omega) (by omega) hc2 (decide_eq_false fun h3 => hs' fun v hv => h3 v ?_).symm
          rw [hf]
          exact List.mem_append_left _ hv
      · have hq : ¬ q n = true := fun e => h (of_decide_eq_true e)
        rw [if_neg hq, List.append_nil] at hf
        rw [ine_f (Classical.not_not.1 h), br_f]
        exact ih (n + 1) K c s (by omega) (by omega) (by rw [hf]; exact hc) (by rw [hf]; exact hs)
  exact go m 0 N 0 true (by omega) (by omega) rfl (decide_eq_true fun v hv => by simp at hv).symm
theorem par_l0_0 {R : Type} {N m : Nat} {rows : List (List Int)} {right loose dist : List Int} {xs : List (List Int)} {st : List (Int × Int)} {k0 : Bool → Option R} {k1 : Int → Int → List (List Int) → List Int → List Int → List (List Int) → List (Int × Int) → Option R} {i : Nat} (hi : i < xs.length) (hx : xs.length ≤ 64) (hr : ∀ x ∈ xs, x.length = m) (hm : m ≤ 6) (hl : loose.length ≤ 1048576) (hdl : dist.length = xs.length) (hN : 1048577 ≤ N)
    (hd : ∀ j : Nat, j < xs.length → ((∀ v ∈ apartL (rdL xs (i : Int)) (rdL xs (j : Int)), v ∈ loose) → rdI dist (j : Int) = ((apartL (rdL xs (i : Int)) (rdL xs (j : Int))).length : Int)) ∧ (¬ (∀ v ∈ apartL (rdL xs (i : Int)) (rdL xs (j : Int)), v ∈ loose) → rdI dist (j : Int) < 0)) :
    ∀ (d n K : Nat), n + d = xs.length → d < K → Zq40_l0_0 N k0 k1 K (i : Int) (n : Int) (m : Int) rows right loose dist xs st = k1 (i : Int) (m : Int) rows right loose xs st := by
  intro d
  induction d with
  | zero =>
    intro n K hd' hK
    obtain ⟨K, rfl⟩ := succ_of hK
    simp only [Zq40_l0_0, ilt_lenf (show ¬ n < xs.length by omega), br_f]
  | succ d ih =>
    intro n K hd' hK
    obtain ⟨K, rfl⟩ := succ_of hK
    have hn : n < xs.length := by omega
    have nx := ih (n + 1) K (by omega) (by omega)
    have hws : IntKind.i64.wrap ((n : Int) + 1) = ((n + 1 : Nat) : Int) := wrap_succ (by omega)
    have r1 : (rdL xs (i : Int)).length = m := hr _ (by rw [rdL_n hi]; exact List.getElem_mem hi)
    have r2 : (rdL xs (n : Int)).length = m := hr _ (by rw [rdL_n hn]; exact List.getElem_mem hn)
    obtain ⟨d1, d2⟩ := hd n hn
    simp only [Zq40_l0_0, ilt_len hn, br_t]
    rw [par_l0_0_0 hi hn r1 r2 hm hl hN]
    by_cases h : ∀ v ∈ apartL (rdL xs (i : Int)) (rdL xs (n : Int)), v ∈ loose
    · rw [decide_eq_true h]
      simp only [br_t, Bool.not_true, br_f]
      rw [inb_n (by omega), chk_t, ine_f (d1 h), br_f, hws]
      exact nx
    · rw [decide_eq_false h]
      simp only [br_f, Bool.not_false, br_t]
      rw [inb_n (by omega), chk_t, ile_f (by have := d2 h; omega), br_f, hws]
      exact nx
theorem par_l0 {N : Nat} {p : Int × (List (List Int) × List Int)} (hp : goodP p) (hN : 1048577 ≤ N) :
    ∀ (d n K : Nat), n + d = (parX p).length → d < K → Zq40_l0 N (fun x => some ((x, ()), ())) (fun (_ : Unit) => some ((true, ()), ())) K (n : Int) p.1 p.2.1 p.2.2 (looseR p).1 (parX p) (stepsL isCh (parX p)) = (some ((true, ()), ()) : Option ((Bool × Unit) × Unit)) := by
  have h0 := hp.1
  have hm : p.1.toNat ≤ 6 := by omega
  have em : ((p.1.toNat : Nat) : Int) = p.1 := by omega
  obtain ⟨s1, s2, s3, s4⟩ := sols_ok hm (evenB p)
  have s1 : lexSorted (parX p) := s1
  have s2 : ∀ x ∈ parX p, x.length = p.1.toNat := s2
  have s3 : (parX p).length ≤ 64 := s3
  have hst := stepsL_len isCh (parX p)
  have h64 : (parX p).length * (parX p).length ≤ 64 * 64 := Nat.mul_le_mul s3 s3
  have hb : ∀ x ∈ parX p, x.length ≤ 24 ∧ ∀ z ∈ x, -99 ≤ z ∧ z ≤ 99 := fun x hx => by
    obtain ⟨⟨l1, l2⟩, _⟩ := (mem_parX hp).1 hx
    refine ⟨by omega, fun z hz => ?_⟩
    have := l2 z hz
    omega
  have hnd : (parX p).Nodup := lex_nodup s1
  have hok := stepsL_ok (p := isCh) (xs := parX p)
  have hll := looseR_len p
  intro d
  induction d with
  | zero =>
    intro n K hd hK
    obtain ⟨K, rfl⟩ := succ_of hK
    simp only [Zq40_l0, ilt_lenf (show ¬ n < (parX p).length by omega), br_f]
  | succ d ih =>
    intro n K hd hK
    obtain ⟨K, rfl⟩ := succ_of hK
    have hn : n < (parX p).length := by omega
    have nx := ih (n + 1) K (by omega) (by omega)
    have hws : IntKind.i64.wrap ((n : Int) + 1) = ((n + 1 : Nat) : Int) := wrap_succ (by omega)
    simp only [Zq40_l0, ilt_len hn, br_t]
    rw [rDist_eq (by omega) (by omega) hb s1 hok hn hN, bind_some']
    simp only [Bool.not_true, br_f]
    have hD := (bfsD_spec (nbL_ok (n := (parX p).length) (by omega) hok) (in_nat hn)).1
    have := par_l0_0 (N := N) (m := p.1.toNat) (rows := p.2.1) (right := p.2.2) (loose := (looseR p).1) (dist := bfsD (nbL (parX p).length (stepsL isCh (parX p))) (parX p).length (n : Int)) (xs := parX p) (st := stepsL isCh (parX p)) (k0 := fun x1 => (some ((x1, ()), ()) : Option ((Bool × Unit) × Unit)))
      (k1 := fun x2 o6 o7 o8 o9 o10 o11 => Zq40_l0 N (fun x => some ((x, ()), ())) (fun (_ : Unit) => some ((true, ()), ())) K (IntKind.i64.wrap (x2 + 1)) o6 o7 o8 o9 o10 o11) hn s3 s2 hm (by omega) hD hN (fun j hj => by
        obtain ⟨a1, a2⟩ := par_dist hp (by omega) hnd hn hj
        have e : (∀ v ∈ apartL (rdL (parX p) (n : Int)) (rdL (parX p) (j : Int)), v ∈ (looseR p).1) ↔ ∀ v ∈ apartL (rdL (parX p) (n : Int)) (rdL (parX p) (j : Int)), ∃ k : Nat, v = (k : Int) ∧ looseV p k := by
          have hl1 : (rdL (parX p) (n : Int)).length = p.1.toNat := s2 _ (by rw [rdL_n hn]; exact List.getElem_mem hn)
          refine forall_congr' fun v => forall_congr' fun hv => ?_
          obtain ⟨k, hk, _, rfl⟩ := mem_apart.1 hv
          rw [mem_loose hp]
          constructor
          · intro h
            exact ⟨k, rfl, h.2⟩
          · rintro ⟨k', e, h⟩
            have : k = k' := by omega
            exact ⟨by omega, this ▸ h⟩
        rw [e]
        exact ⟨a1, a2⟩) (parX p).length 0 N (by omega) (by omega)
    rw [show ((0 : Nat) : Int) = 0 from rfl, em] at this
    rw [this, hws]
    exact nx
end Go.Proofs.YtfilchmabmfmaaaGreat
