/- Statements on data alone. -/
import Derived.Test.YtfilchmabmfmaaaGreatPvPure
import Derived.Test.YtfilchmabmfmaaaGreatParitiesGa
set_option linter.all false
set_option linter.all false
namespace Go.Proofs.YtfilchmabmfmaaaGreat
open Go Go.PV Classical
theorem rdI_set {cs : List Int} {x : Nat} (hx : x < cs.length) (v y : Int) (hy : 0 ≤ y) : rdI (tSet cs (x : Int) v) y = if y = x then v else rdI cs y := by
  obtain ⟨n, rfl⟩ : ∃ n : Nat, y = n := ⟨y.toNat, by omega⟩
  rw [tSet_n]
  unfold rdI
  rw [Int.toNat_natCast, List.getD, List.getD, List.getElem?_set]
  by_cases h : x = n
  · subst h
    simp [hx]
  · have : ¬ ((n : Int) = (x : Int)) := by omega
    simp [h, this]
theorem wrap64 {n : Nat} (h : n < 18446744073709551616) : IntKind.u64.wrap (n : Int) = (n : Int) := by
  unfold IntKind.wrap
  simp only [IntKind.bits, IntKind.signed, Bool.false_and]
  have : (n : Int) % (2 ^ 64 : Int) = n := Int.emod_eq_of_lt (by omega) (by omega)
  rw [this]
  rfl
theorem ofInt64 {n : Nat} (h : n < 18446744073709551616) : (BitVec.ofInt 64 (n : Int)).toNat = n := by
  rw [BitVec.toNat_ofInt]
  omega
theorem orN {a b : Nat} (ha : a < 4294967296) (hb : b < 4294967296) : bitop .or .u64 (a : Int) (b : Int) = ((a ||| b : Nat) : Int) := by
  show IntKind.u64.wrap (((BitVec.ofInt 64 (a : Int) ||| BitVec.ofInt 64 (b : Int)).toNat : Nat) : Int) = _
  rw [BitVec.toNat_or, ofInt64 (by omega), ofInt64 (by omega)]
  have : a ||| b < 2 ^ 32 := Nat.or_lt_two_pow ha hb
  exact wrap64 (by omega)
theorem andN {a b : Nat} (ha : a < 4294967296) (hb : b < 4294967296) : bitop .and .u64 (a : Int) (b : Int) = ((a &&& b : Nat) : Int) := by
  show IntKind.u64.wrap (((BitVec.ofInt 64 (a : Int) &&& BitVec.ofInt 64 (b : Int)).toNat : Nat) : Int) = _
  rw [BitVec.toNat_and, ofInt64 (by omega), ofInt64 (by omega)]
  have : a &&& b < 2 ^ 32 := Nat.and_lt_two_pow _ hb
  exact wrap64 (by omega)
theorem nodup_le : ∀ {a b : List Int}, a.Nodup → (∀ x ∈ a, x ∈ b) → a.length ≤ b.length := by
  intro a
  induction a with
  | nil => intro b _ _; exact Nat.zero_le _
  | cons x a ih =>
    intro b hn hs
    obtain ⟨h1, h2⟩ := List.nodup_cons.1 hn
    have hx := hs x (List.mem_cons_self ..)
    have := ih (b := b.erase x) h2 fun y hy => (List.mem_erase_of_ne (fun (e : y = x) => h1 (e ▸ hy))).2 (hs y (List.mem_cons_of_mem _ hy))
    rw [List.length_erase_of_mem hx] at this
    have := List.length_pos_of_mem hx
    rw [List.length_cons]
    omega
def strict (xs : List Int) : Prop := xs.Pairwise (· < ·)
theorem strict_nodup {xs : List Int} (h : strict xs) : xs.Nodup := h.imp fun hab e => by omega
def inM (m : Nat) (o : List Int) : Prop := o.Nodup ∧ ∀ z ∈ o, 0 ≤ z ∧ z < (m : Int)
theorem inM_len {m : Nat} {o : List Int} (h : inM m o) : o.length ≤ m := by
  have := nodup_le (b := (List.range m).map fun i : Nat => (i : Int)) h.1 fun z hz => by
    have := h.2 z hz
    exact List.mem_map.2 ⟨z.toNat, List.mem_range.2 (by omega), by omega⟩
  simpa using this
def bitAt (m n v : Nat) : Int := ((n / 2 ^ (m - 1 - v) % 2 : Nat) : Int)
theorem bitTab : ((List.range 64).all fun n => (List.range 6).all fun k => decide (bitop .and .i64 (shrI .i64 (n : Int) (k : Int)) 1 = ((n / 2 ^ k % 2 : Nat) : Int))) = true := by kernel_rfl
theorem bit_at {n k : Nat} (hn : n < 64) (hk : k < 6) : bitop .and .i64 (shrI .i64 (n : Int) (k : Int)) 1 = ((n / 2 ^ k % 2 : Nat) : Int) := by
  have h := List.all_eq_true.1 bitTab n (List.mem_range.2 hn)
  have h := List.all_eq_true.1 h k (List.mem_range.2 hk)
  exact of_decide_eq_true h
theorem assign_row {R : Type} {N m n : Nat} {k0 : Int → (List Int → Option Bool) → Int → Int → List (List Int) → List Int → Option R} {is : List Int → Option Bool} {x2 x3 : Int} {o1 : List (List Int)} (hm : m ≤ 6) (hn : n < 64) : ∀ (d v K : Nat) (o2 : List Int), v + d = m → d < K → o2.length = v →
    Zq23_l0_0 N k0 K (m : Int) is (n : Int) x2 x3 (m : Int) (v : Int) o1 o2 = k0 (m : Int) is x2 x3 o1 (o2 ++ (List.range' v d).map (bitAt m n)) := by
  intro d
  induction d with
  | zero =>
    intro v K o2 hv hK ho
    obtain ⟨K, rfl⟩ := succ_of hK
    simp only [Zq23_l0_0, ilt_nf (show ¬ v < m by omega), br_f]
    simp
  | succ d ih =>
    intro v K o2 hv hK ho
    obtain ⟨K, rfl⟩ := succ_of hK
    have e1 : IntKind.i64.wrap (IntKind.i64.wrap ((m : Int) - 1) - (v : Int)) = ((m - 1 - v : Nat) : Int) := by
      rw [wrap_ok (show -9223372036854775808 ≤ (m : Int) - 1 by omega) (by omega), wrap_ok (by omega) (by omega)]
      omega
    simp only [Zq23_l0_0, ilt_n (show v < m by omega), br_t, e1, bit_at hn (show m - 1 - v < 6 by omega)]
    rw [ile_t (by omega), chk_t, room_ok (by simp; omega), chk_t, wrap_succ (by omega), ih (v + 1) K _ (by omega) (by omega) (by simp [tApp_d, ho])]
    rw [List.range'_succ, List.map_cons, tApp_d, List.append_assoc]
    rfl
def rowB (m n : Nat) : List Int := (List.range m).map (bitAt m n)
theorem allB_rows (m : Nat) : allB m = (List.range (2 ^ m)).map (rowB m) := rfl
theorem pow_le64 {m : Nat} (h : m ≤ 6) : 2 ^ m ≤ 64 := Nat.pow_le_pow_right (by omega) h
theorem shl_m {m : Nat} (h : m ≤ 6) : shlI .i64 1 (m : Int) = ((2 ^ m : Nat) : Int) := by
  rcases (by omega : m = 0 ∨ m = 1 ∨ m = 2 ∨ m = 3 ∨ m = 4 ∨ m = 5 ∨ m = 6) with rfl | rfl | rfl | rfl | rfl | rfl | rfl <;> rfl
theorem assignments_eq {N m : Nat} {is : List Int → Option Bool} {p : List Int → Bool} (hN : 1048577 ≤ N) (hm : m ≤ 6) (hp : ∀ b ∈ allB m, is b = some (p b)) : Zq23 N (m : Int) is = some (((allB m).filter p, ()), ()) := by
  have h64 := pow_le64 hm
  have go : ∀ (r c K : Nat) (o : List (List Int)), c + r = 2 ^ m → r < K → o.length ≤ c →
      Zq23_l0 N (fun o => some ((o, ()), ())) K (m : Int) is ((2 ^ m : Nat) : Int) (c : Int) o = some ((o ++ ((List.range' c r).map (rowB m)).filter p, ()), ()) := by
    intro r
    induction r with
    | zero =>
      intro c K o hc hK ho
      obtain ⟨K, rfl⟩ := succ_of hK
      simp only [Zq23_l0, ilt_nf (show ¬ c < 2 ^ m by omega), br_f]
      simp
    | succ r ih =>
      intro c K o hc hK ho
      obtain ⟨K, rfl⟩ := succ_of hK
      simp only [Zq23_l0, ilt_n (show c < 2 ^ m by omega), br_t]
      have := assign_row (N := N) (m := m) (n := c) (k0 := fun vars2 is2 x2 x3 o1 o2 => (is2 o2).bind fun v => br v (chk (room o1 [o2]) (Zq23_l0 N (fun o => some ((o, ()), ())) K vars2 is2 x2 (IntKind.i64.wrap (x3 + 1)) (tApp o1 [o2]))) (Zq23_l0 N (fun o => some ((o, ()), ())) K vars2 is2 x2 (IntKind.i64.wrap (x3 + 1)) o1))
        (is := is) (x2 := ((2 ^ m : Nat) : Int)) (x3 := (c : Int)) (o1 := o) hm (by omega) m 0 N [] (by omega) (by omega) rfl
      rw [show ((0 : Nat) : Int) = 0 from rfl] at this
      rw [this, List.nil_append, ← List.range_eq_range']
      have hmem : rowB m c ∈ allB m := by rw [allB_rows]; exact List.mem_map.2 ⟨c, List.mem_range.2 (by omega), rfl⟩
      have hq := hp _ hmem
      unfold rowB at hq
      rw [hq, bind_some', wrap_succ (by omega), List.range'_succ, List.map_cons]
      cases hb : p (rowB m c) with
      | true =>
        unfold rowB at hb
        rw [hb, br_t, room_ok (by simp; omega), chk_t, tApp_d, ih (c + 1) K _ (by omega) (by omega) (by simp; omega)]
        rw [List.filter_cons_of_pos (show p (rowB m c) = true from hb), List.append_assoc]
        rfl
      | false =>
        unfold rowB at hb
        rw [hb, br_f, ih (c + 1) K _ (by omega) (by omega) (by omega)]
        rw [List.filter_cons_of_neg (by show ¬ p (rowB m c) = true; unfold rowB; rw [hb]; simp)]
  unfold Zq23
  rw [ile_t (by omega), chk_t, shl_m hm]
  have := go (2 ^ m) 0 N [] (by omega) (by omega) (by simp)
  rw [show ((0 : Nat) : Int) = 0 from rfl] at this
  rw [this, List.nil_append, ← List.range_eq_range', ← allB_rows]
theorem allB_bits {m : Nat} {b : List Int} (h : b ∈ allB m) : ∀ x ∈ b, x = 0 ∨ x = 1 := by
  obtain ⟨n, _, rfl⟩ := List.mem_map.1 h
  intro x hx
  obtain ⟨v, _, rfl⟩ := List.mem_map.1 hx
  omega
def sumAt (b : List Int) : List Int → Int
  | [] => 0
  | v :: r => rdI b v + sumAt b r
theorem rdI_bit {b : List Int} (h : ∀ x ∈ b, x = 0 ∨ x = 1) (i : Int) : rdI b i = 0 ∨ rdI b i = 1 := by
  unfold rdI
  rw [List.getD_eq_getElem?_getD]
  cases hq : b[i.toNat]? with
  | none => exact .inl rfl
  | some v => exact h v (List.mem_of_getElem? hq)
theorem sumAt_le {b : List Int} (h : ∀ x ∈ b, x = 0 ∨ x = 1) : ∀ row : List Int, 0 ≤ sumAt b row ∧ sumAt b row ≤ row.length := by
  intro row
  induction row with
  | nil => simp [sumAt]
  | cons v r ih =>
    have := rdI_bit h v
    simp only [sumAt, List.length_cons]
    omega
theorem sumAt_snoc (b : List Int) (v : Int) : ∀ row : List Int, sumAt b (row ++ [v]) = sumAt b row + rdI b v := by
  intro row
  induction row with
  | nil => simp [sumAt]
  | cons u r ih => simp only [sumAt, List.cons_append]; omega
theorem rising_in {lo hi : Int} {xs : List Int} (h : rising lo hi xs) : ∀ x ∈ xs, lo ≤ x ∧ x ≤ hi := all_rdI.2 fun i hi => (h i hi).1
def evenAt (rows : List (List Int)) (right : List Int) (b : List Int) (r : Nat) : Prop := (rdI right r + sumAt b (rdL rows r)) % 2 = 0
noncomputable def evenB (p : Int × (List (List Int) × List Int)) (b : List Int) : Bool := decide (∀ r, r < p.2.1.length → evenAt p.2.1 p.2.2 b r)
theorem goodP_right {p : Int × (List (List Int) × List Int)} (h : goodP p) : p.2.2.length = p.2.1.length ∧ ∀ x ∈ p.2.2, x = 0 ∨ x = 1 := by
  have := h.2.2.1
  rw [Bool.and_eq_true, decide_eq_true_iff] at this
  refine ⟨by omega, fun x hx => ?_⟩
  have := List.all_eq_true.1 this.1 x hx
  simp only [isBit, decide_eq_true_eq] at this
  omega
theorem parity_row {R : Type} {N : Nat} {k0 : List Int → Int × (List (List Int) × List Int) → Int → Int → List (List Int) → Int → Int → Option R} {b row : List Int} {x4 : Int × (List (List Int) × List Int)} {i : Int} {x5 : List (List Int)} {x6 x7 : Int} (hb : ∀ x ∈ b, x = 0 ∨ x = 1) (hr : ∀ v ∈ row, 0 ≤ v ∧ v < b.length) (hl : row.length ≤ 1048576) :
    ∀ (d n K : Nat), n + d = row.length → d < K → Zq18_l0_0 N k0 K b x4 i (sumAt b (row.take n)) x5 x6 x7 row (row.length : Int) (n : Int) = k0 b x4 i (sumAt b row) x5 x6 x7 := by
  intro d
  induction d with
  | zero =>
    intro n K hn hK
    obtain ⟨K, rfl⟩ := succ_of hK
    simp only [Zq18_l0_0, ilt_nf (show ¬ n < row.length by omega), br_f]
    rw [List.take_of_length_le (by omega)]
  | succ d ih =>
    intro n K hn hK
    obtain ⟨K, rfl⟩ := succ_of hK
    have hlt : n < row.length := by omega
    have hv := hr _ (List.getElem_mem hlt)
    simp only [Zq18_l0_0, ilt_n hlt, br_t, inb_n hlt, chk_t, rdI_n hlt]
    rw [inb_i hv.1 (by omega), chk_t]
    have h1 := sumAt_le hb (row.take n)
    have h2 := rdI_bit hb row[n]
    have h3 : (row.take n).length ≤ 1048576 := by simp; omega
    rw [wrap_ok (show -9223372036854775808 ≤ sumAt b (row.take n) + rdI b row[n] by omega) (by omega), wrap_succ (by omega), ← sumAt_snoc]
    have e : row.take n ++ [row[n]] = row.take (n + 1) := by rw [List.take_add_one, List.getElem?_eq_getElem hlt]; rfl
    rw [e]
    exact ih (n + 1) K (by omega) (by omega)
theorem parity_c1 {N : Nat} (hN : 1048577 ≤ N) {p : Int × (List (List Int) × List Int)} (hp : goodP p) (hrows : ∀ x ∈ p.2.1, x.length ≤ 1048576) {b : List Int} (hb : b ∈ allB p.1.toNat) : Zq18 N b p = some ((evenB p b, ()), ()) := by
  have hbits := allB_bits hb
  have hbl := allB_row hb
  obtain ⟨hr1, hr2⟩ := goodP_right hp
  have h0 := hp.1
  have h6 := hp.2.1
  unfold Zq18
  have := loop_all_if (P := ∀ r, r < p.2.1.length → evenAt p.2.1 p.2.2 b r) (m := p.2.1.length) (L := fun K i => Zq18_l0 N (fun x => some ((x, ()), ())) (fun (_ : Unit) => some ((true, ()), ())) K b p p.2.1 (p.2.1.length : Int) i) (fun i => evenAt p.2.1 p.2.2 b i) Iff.rfl
    (kt := some ((true, ()), ())) (kf := some ((false, ()), ())) (fun K n hn => ?_) (fun K n hn hq => ?_) (fun K n hn hq => ?_) (show p.2.1.length < N by omega)
  · rw [show ((0 : Nat) : Int) = 0 from rfl] at this
    rw [tLen_n, this]
    unfold evenB
    by_cases h : ∀ r, r < p.2.1.length → evenAt p.2.1 p.2.2 b r
    · rw [if_pos h, decide_eq_true h]
    · rw [if_neg h, decide_eq_false h]
  · simp only [Zq18_l0, ilt_nf hn, br_f]
  all_goals
    simp only [Zq18_l0, ilt_n hn, br_t, inb_n hn, chk_t]
    have hmem : rdL p.2.1 n ∈ p.2.1 := by rw [rdL_n hn]; exact List.getElem_mem hn
    have hin := rising_in (hp.2.2.2 _ hmem)
    have hlen := hrows _ hmem
    have hpr := parity_row (R := (Bool × Unit) × Unit) (N := N) (k0 := fun list2 x4 i sum x5 x6 x7 => chk (inb x4.2.2 i) (br (ine (sum.tmod 2) (rdI x4.2.2 i)) (some ((false, ()), ())) (Zq18_l0 N (fun x => some ((x, ()), ())) (fun (_ : Unit) => some ((true, ()), ())) K list2 x4 x5 x6 (IntKind.i64.wrap (x7 + 1)))))
      (b := b) (row := rdL p.2.1 n) (x4 := p) (i := (n : Int)) (x5 := p.2.1) (x6 := (p.2.1.length : Int)) (x7 := (n : Int)) hbits (fun v hv => by have := hin v hv; omega) hlen (rdL p.2.1 n).length 0 N (by omega) (by omega)
    simp only [List.take_zero, sumAt] at hpr
    rw [show ((0 : Nat) : Int) = 0 from rfl] at hpr
    rw [tLen_n, hpr, inb_n (show n < p.2.2.length by omega), chk_t, wrap_succ (by omega)]
    have hs := sumAt_le hbits (rdL p.2.1 n)
    have hbit := rdI_bit hr2 (n : Int)
    rw [Int.tmod_eq_emod_of_nonneg hs.1]
    unfold evenAt at hq
  · rw [ine_f (by omega), br_f]
  · rw [ine_t (by omega), br_t]
theorem impl_even_eq {N : Nat} (hN : 1048577 ≤ N) {p : Int × (List (List Int) × List Int)} (hp : goodP p) (hrows : ∀ x ∈ p.2.1, x.length ≤ 1048576) : Zq17 N p = some (((allB p.1.toNat).filter (evenB p), ()), ()) := by
  unfold Zq17
  have h0 := hp.1
  have e : p.1 = ((p.1.toNat : Nat) : Int) := by omega
  have := assignments_eq hN (m := p.1.toNat) (is := fun y0 => (Zq18 N y0 p).bind fun z => some z.1.1) (p := evenB p) (by omega) fun b hb => by rw [parity_c1 hN hp hrows hb, bind_some']
  rw [← e] at this
  rw [show ((p.1, (p.2.1, p.2.2)) : Int × (List (List Int) × List Int)) = p from rfl, this, bind_some']
theorem even_row {R : Type} {N : Nat} {k0 : List (List Int) → Int → Bool → Int → Int → Int → List (List Int) → List Int → List (List Int) → Option R} {all rows : List (List Int)} {a r : Nat} {f : Bool} {x : Int} {o16 : Int} {right : List Int} {o19 : List (List Int)} (ha : a < all.length) (hr : r < rows.length) (hb : ∀ x ∈ rdL all a, x = 0 ∨ x = 1) (hrow : ∀ v ∈ rdL rows r, 0 ≤ v ∧ v < (rdL all a).length) (hl : (rdL rows r).length ≤ 1048576) (hx : x = 0 ∨ x = 1) :
    ∀ (d n K : Nat), n + d = (rdL rows r).length → d < K → Zq88_l0_0_0 N k0 K all (a : Int) f (r : Int) (x + sumAt (rdL all a) ((rdL rows r).take n)) (n : Int) o16 rows right o19 = k0 all (a : Int) f (r : Int) (x + sumAt (rdL all a) (rdL rows r)) o16 rows right o19 := by
  intro d
  induction d with
  | zero =>
    intro n K hn hK
    obtain ⟨K, rfl⟩ := succ_of hK
    simp only [Zq88_l0_0_0, inb_n hr, chk_t, tLen_n, ilt_nf (show ¬ n < (rdL rows r).length by omega), br_f]
    rw [List.take_of_length_le (by omega)]
  | succ d ih =>
    intro n K hn hK
    obtain ⟨K, rfl⟩ := succ_of hK
    have hlt : n < (rdL rows r).length := by omega
    have hv := hrow _ (List.getElem_mem hlt)
    simp only [Zq88_l0_0_0, inb_n hr, inb_n ha, chk_t, tLen_n, ilt_n hlt, br_t, inb_n hlt, rdI_n hlt]
    rw [inb_i hv.1 (by omega), chk_t]
    have h1 := sumAt_le hb ((rdL rows r).take n)
    have h2 := rdI_bit hb (rdL rows r)[n]
    have h3 : ((rdL rows r).take n).length ≤ 1048576 := by simp; omega
    rw [wrap_ok (show -9223372036854775808 ≤ x + sumAt (rdL all a) ((rdL rows r).take n) + rdI (rdL all a) (rdL rows r)[n] by omega) (by omega), wrap_succ (by omega), Int.add_assoc, ← sumAt_snoc]
    have e : (rdL rows r).take n ++ [(rdL rows r)[n]] = (rdL rows r).take (n + 1) := by rw [List.take_add_one, List.getElem?_eq_getElem hlt]; rfl
    rw [e]
    exact ih (n + 1) K (by omega) (by omega)
theorem even_rows {R : Type} {N : Nat} (hN : 1048577 ≤ N) {k0 : List (List Int) → Int → Bool → Int → List (List Int) → List Int → List (List Int) → Option R} {all : List (List Int)} {a : Nat} {p : Int × (List (List Int) × List Int)} {o12 : Int} {o15 : List (List Int)} (hp : goodP p) (hrows : ∀ x ∈ p.2.1, x.length ≤ 1048576) (ha : a < all.length) (hb : ∀ x ∈ rdL all a, x = 0 ∨ x = 1) (hbl : (rdL all a).length = p.1.toNat) :
    ∀ (d n K : Nat) (f : Bool), n + d = p.2.1.length → d < K → Zq88_l0_0 N k0 K all (a : Int) f (n : Int) o12 p.2.1 p.2.2 o15 = k0 all (a : Int) (f && decide (∀ r : Nat, n ≤ r → r < p.2.1.length → evenAt p.2.1 p.2.2 (rdL all a) r)) o12 p.2.1 p.2.2 o15 := by
  obtain ⟨hr1, hr2⟩ := goodP_right hp
  have h0 := hp.1
  have h6 := hp.2.1
  intro d
  induction d with
  | zero =>
    intro n K f hn hK
    obtain ⟨K, rfl⟩ := succ_of hK
    simp only [Zq88_l0_0, ilt_lenf (show ¬ n < p.2.1.length by omega), br_f]
    rw [decide_eq_true (fun r h1 h2 => by omega), Bool.and_true]
  | succ d ih =>
    intro n K f hn hK
    obtain ⟨K, rfl⟩ := succ_of hK
    have hlt : n < p.2.1.length := by omega
    simp only [Zq88_l0_0, ilt_len hlt, br_t, inb_n (show n < p.2.2.length by omega), chk_t]
    have hmem : rdL p.2.1 n ∈ p.2.1 := by rw [rdL_n hlt]; exact List.getElem_mem hlt
    have hin := rising_in (hp.2.2.2 _ hmem)
    have hlen := hrows _ hmem
    have hbit := rdI_bit hr2 (n : Int)
    have hpr := even_row (R := R) (N := N) (k0 := fun x11 x12 x13 x14 x15 o16 o17 o18 o19 => br x13 (Zq88_l0_0 N k0 K x11 x12 (ieq (x15.tmod 2) 0) (IntKind.i64.wrap (x14 + 1)) o16 o17 o18 o19) (Zq88_l0_0 N k0 K x11 x12 false (IntKind.i64.wrap (x14 + 1)) o16 o17 o18 o19))
      (all := all) (rows := p.2.1) (a := a) (r := n) (f := f) (x := rdI p.2.2 n) (o16 := o12) (right := p.2.2) (o19 := o15) ha hlt hb (fun v hv => by have := hin v hv; omega) hlen hbit (rdL p.2.1 n).length 0 N (by omega) (by omega)
    simp only [List.take_zero, sumAt, Int.add_zero] at hpr
    rw [show ((0 : Nat) : Int) = 0 from rfl] at hpr
    rw [hpr]
    have hs := sumAt_le hb (rdL p.2.1 n)
    rw [Int.tmod_eq_emod_of_nonneg (show 0 ≤ rdI p.2.2 n + sumAt (rdL all a) (rdL p.2.1 n) by omega), wrap_succ (by omega)]
    have split : (∀ r : Nat, n ≤ r → r < p.2.1.length → evenAt p.2.1 p.2.2 (rdL all a) r) ↔ evenAt p.2.1 p.2.2 (rdL all a) n ∧ ∀ r : Nat, n + 1 ≤ r → r < p.2.1.length → evenAt p.2.1 p.2.2 (rdL all a) r :=
      ⟨fun h => ⟨h n (Nat.le_refl _) hlt, fun r h1 h2 => h r (by omega) h2⟩, fun h r h1 h2 => by
        by_cases e : r = n
        · rw [e]; exact h.1
        · exact h.2 r (by omega) h2⟩
    rw [ih (n + 1) K _ (by omega) (by omega), ih (n + 1) K _ (by omega) (by omega), ieq_d]
    cases f with
    | false => rw [br_f, Bool.false_and, Bool.false_and]
    | true =>
      rw [br_t, Bool.true_and, ← Bool.decide_and]
      congr 1
      exact decide_eq_decide.2 split.symm
theorem spec_even_eq {N : Nat} (hNe : N = 1048577) {p : Int × (List (List Int) × List Int)} (hp : goodP p) (hrows : ∀ x ∈ p.2.1, x.length ≤ 1048576) : Zq88 N p = some (((allB p.1.toNat).filter (evenB p), ()), ()) := by
  have hN : 1048577 ≤ N := by omega
  have h0 := hp.1
  have e : p.1 = ((p.1.toNat : Nat) : Int) := by omega
  have hall := allB_spec p.1.toNat (by omega)
  rw [← hNe, ← e] at hall
  unfold Zq88
  rw [hall, bind_some']
  have hlen := allB_len p.1.toNat
  have h64 := pow_le64 (m := p.1.toNat) (by omega)
  have go : ∀ (d n K : Nat) (o : List (List Int)), n + d = (allB p.1.toNat).length → d < K → o.length ≤ n →
      Zq88_l0 N (fun o8 => some ((o8, ()), ())) K (allB p.1.toNat) (n : Int) p.1 p.2.1 p.2.2 o = some ((o ++ ((allB p.1.toNat).drop n).filter (evenB p), ()), ()) := by
    intro d
    induction d with
    | zero =>
      intro n K o hn hK ho
      obtain ⟨K, rfl⟩ := succ_of hK
      simp only [Zq88_l0, ilt_lenf (show ¬ n < (allB p.1.toNat).length by omega), br_f]
      rw [List.drop_of_length_le (by omega)]
      simp
    | succ d ih =>
      intro n K o hn hK ho
      obtain ⟨K, rfl⟩ := succ_of hK
      have hlt : n < (allB p.1.toNat).length := by omega
      simp only [Zq88_l0, ilt_len hlt, br_t]
      have hmem : rdL (allB p.1.toNat) n ∈ allB p.1.toNat := by rw [rdL_n hlt]; exact List.getElem_mem hlt
      have := even_rows (R := (List (List Int) × Unit) × Unit) hN (k0 := fun x7 x8 x9 o12 o13 o14 o15 => br x9 (chk (inb x7 x8) (chk (room o15 [rdL x7 x8]) (Zq88_l0 N (fun o8 => some ((o8, ()), ())) K x7 (IntKind.i64.wrap (x8 + 1)) o12 o13 o14 (tApp o15 [rdL x7 x8])))) (Zq88_l0 N (fun o8 => some ((o8, ()), ())) K x7 (IntKind.i64.wrap (x8 + 1)) o12 o13 o14 o15))
        (all := allB p.1.toNat) (a := n) (p := p) (o12 := p.1) (o15 := o) hp hrows hlt (allB_bits hmem) (allB_row hmem) p.2.1.length 0 N true (by omega) (by have := hp.2.1; omega)
      rw [show ((0 : Nat) : Int) = 0 from rfl] at this
      rw [this, Bool.true_and, wrap_succ (by omega)]
      obtain ⟨y, r, e1, e2, e3⟩ := drop_split hlt
      have hev : decide (∀ r : Nat, 0 ≤ r → r < p.2.1.length → evenAt p.2.1 p.2.2 (rdL (allB p.1.toNat) n) r) = evenB p y := by
        unfold evenB
        rw [rdL_n hlt, e2]
        exact decide_eq_decide.2 ⟨fun h r hr => h r (Nat.zero_le _) hr, fun h r _ hr => h r hr⟩
      rw [hev, e1]
      cases hq : evenB p y with
      | true =>
        rw [br_t, inb_n hlt, chk_t, room_ok (by simp; omega), chk_t, tApp_d, ih (n + 1) K _ (by omega) (by omega) (by simp; omega), rdL_n hlt, e2, e3, List.filter_cons_of_pos hq, List.append_assoc]
        rfl
      | false =>
        rw [br_f, ih (n + 1) K _ (by omega) (by omega) (by omega), e3, List.filter_cons_of_neg (by rw [hq]; simp)]
  have := go (allB p.1.toNat).length 0 N [] (by omega) (by omega) (by simp)
  rw [show ((0 : Nat) : Int) = 0 from rfl] at this
  rw [this, List.nil_append, List.drop_zero]
noncomputable def parF (p : Int × (List (List Int) × List Int)) : (Int × List (List Int)) × Bool := if goodP p then ((p.1, formR p.1.toNat ((allB p.1.toNat).filter (evenB p))), true) else ((0, []), false)
theorem even_small {p : Int × (List (List Int) × List Int)} (hp : goodP p) : ((allB p.1.toNat).filter (evenB p)).length ≤ 64 ∧ ∀ s ∈ (allB p.1.toNat).filter (evenB p), s.length ≤ 1048576 := by
  have h0 := hp.1
  have h64 := pow_le64 (m := p.1.toNat) (by omega)
  refine ⟨?_, fun s hs => ?_⟩
  · have := List.length_filter_le (evenB p) (allB p.1.toNat)
    rw [allB_len] at this
    omega
  · have := allB_row (List.mem_filter.1 hs).1
    omega
theorem Zq65_eq {N : Nat} (hNe : N = 1048577) {p : Int × (List (List Int) × List Int)} (hx : p.2.1.length ≤ 1048576) (hxs : ∀ x ∈ p.2.1, x.length ≤ 1048576) (hy : p.2.2.length ≤ 1048576) : Zq65 N p = some (((parF p).1, (parF p).2, ()), ()) := by
  have hN : 1048577 ≤ N := by omega
  unfold Zq65 parF
  rw [show ((p.1, (p.2.1, p.2.2)) : Int × (List (List Int) × List Int)) = p from rfl, Zq91_eq hx hxs hy hN, bind_some']
  by_cases h : goodP p
  · obtain ⟨s1, s2⟩ := even_small h
    have h0 := h.1
    have e : p.1 = ((p.1.toNat : Nat) : Int) := by omega
    have := (Zq89_eq (m := p.1.toNat) (ss := (allB p.1.toNat).filter (evenB p)) hNe (by omega) (by omega) s2).1
    rw [← e] at this
    rw [decide_eq_true h, Bool.not_true, br_f, spec_even_eq hNe h hxs, bind_some', this, bind_some', if_pos h]
  · rw [decide_eq_false h, Bool.not_false, br_t, if_neg h]
theorem Zq15_eq {N : Nat} (hNe : N = 1048577) {p : Int × (List (List Int) × List Int)} (hx : p.2.1.length ≤ 1048576) (hxs : ∀ x ∈ p.2.1, x.length ≤ 1048576) (hy : p.2.2.length ≤ 1048576) : Zq15 N p = some (((parF p).1, (parF p).2, ()), ()) := by
  have hN : 1048577 ≤ N := by omega
  unfold Zq15 parF
  rw [show ((p.1, (p.2.1, p.2.2)) : Int × (List (List Int) × List Int)) = p from rfl, Zq10_eq hx hxs hy hN, bind_some']
  by_cases h : goodP p
  · obtain ⟨s1, s2⟩ := even_small h
    have h0 := h.1
    have e : p.1 = ((p.1.toNat : Nat) : Int) := by omega
    have := Zq26_eq (m := p.1.toNat) (ss := (allB p.1.toNat).filter (evenB p)) hNe (by omega) (by omega) s2
    rw [← e] at this
    rw [decide_eq_true h, Bool.not_true, br_f, impl_even_eq hN h hxs, bind_some', this, bind_some', if_pos h]
  · rw [decide_eq_false h, Bool.not_false, br_t, if_neg h]
theorem parF_small {p : Int × (List (List Int) × List Int)} : (parF p).1.2.length ≤ 64 ∧ ∀ x ∈ (parF p).1.2, x.length ≤ 1048576 := by
  unfold parF
  by_cases h : goodP p
  · rw [if_pos h]
    have h0 := h.1
    obtain ⟨s1, s2⟩ := even_small h
    exact ⟨(Zq89_eq (N := 1048577) (m := p.1.toNat) rfl (by omega) (by omega) s2).2, formR_rows (by omega) _⟩
  · rw [if_neg h]; simp
def InN (n : Nat) (x : Int) : Prop := 0 ≤ x ∧ x < (n : Int)
theorem nat_of {n : Nat} {x : Int} (h : InN n x) : ∃ i : Nat, i < n ∧ x = (i : Int) := by
  obtain ⟨h1, h2⟩ := h
  exact ⟨x.toNat, by omega, by omega⟩
theorem in_nat {n i : Nat} (h : i < n) : InN n (i : Int) := ⟨by omega, by omega⟩
inductive Wk (lists : List (List Int)) (x : Int) : Int → Prop
  | base : Wk lists x x
  | step {y z : Int} : Wk lists x y → z ∈ rdL lists y → Wk lists x z
def SpI (lists : List (List Int)) (m : Nat) (x : Int) (o q : List Int) : Prop :=
  o.length = m ∧ inM m q ∧ (∀ y, InN m y → (0 ≤ rdI o y ↔ y ∈ q)) ∧ (∀ y, InN m y → rdI o y < (q.length : Int)) ∧ ∀ y ∈ q, Wk lists x y
noncomputable def spF (u : Int) (s : List Int × List Int) (z : Int) : List Int × List Int := if rdI s.1 z < 0 then (tSet s.1 z (rdI s.1 u + 1), s.2 ++ [z]) else s
theorem spF_ok {lists : List (List Int)} {m : Nat} {x u z : Int} {s : List Int × List Int} (h : SpI lists m x s.1 s.2) (hu : u ∈ s.2) (hz : InN m z) (hr : z ∈ rdL lists u) : SpI lists m x (spF u s z).1 (spF u s z).2 ∧ (∃ t, (spF u s z).2 = s.2 ++ t) ∧ z ∈ (spF u s z).2 := by
  obtain ⟨h1, h2, h3, h4, h5⟩ := h
  unfold spF
  by_cases hc : rdI s.1 z < 0
  · rw [if_pos hc]
    obtain ⟨i, hi, rfl⟩ := nat_of hz
    have hzq : ¬ (i : Int) ∈ s.2 := fun h => by have := (h3 _ hz).2 h; omega
    have hum : InN m u := h2.2 u hu
    have hu0 := (h3 u hum).2 hu
    have hu1 := h4 u hum
    refine ⟨⟨by simp only [tSet_n, List.length_set]; exact h1, ⟨?_, ?_⟩, ?_, ?_, ?_⟩, ⟨_, rfl⟩, by simp⟩
    · refine List.nodup_append.2 ⟨h2.1, by simp, ?_⟩
      intro a ha b hb
      simp at hb
      rw [hb]
      exact fun e => hzq (e ▸ ha)
    · intro y hy
      rcases List.mem_append.1 hy with h | h
      · exact h2.2 y h
      · simp at h; rw [h]; exact hz
    · intro y hy
      simp only []
      rw [rdI_set (by omega) _ y hy.1, List.mem_append, List.mem_singleton]
      by_cases hyi : y = i
      · rw [if_pos hyi]
        exact ⟨fun _ => .inr hyi, fun _ => by omega⟩
      · rw [if_neg hyi, h3 y hy]
        exact ⟨.inl, fun h => h.elim _root_.id fun h => absurd h hyi⟩
    · intro y hy
      simp only []
      rw [rdI_set (by omega) _ y hy.1, List.length_append, List.length_singleton]
      by_cases hyi : y = i
      · rw [if_pos hyi]; omega
      · rw [if_neg hyi]
        have := h4 y hy
        omega
    · intro y hy
      rcases List.mem_append.1 hy with h | h
      · exact h5 y h
      · simp at h; rw [h]; exact .step (h5 u hu) hr
  · rw [if_neg hc]
    exact ⟨⟨h1, h2, h3, h4, h5⟩, ⟨[], by simp⟩, (h3 z hz).1 (by omega)⟩
theorem rising_strict {lo hi : Int} : ∀ {L : List Int}, rising lo hi L → strict L := by
  intro L
  induction L with
  | nil => intro _; exact List.Pairwise.nil
  | cons x L ih =>
    intro h
    have h' : rising lo hi L := by
      intro i hi'
      have := h (i + 1) (by simp; omega)
      obtain ⟨h1, h2⟩ := this
      have e : ∀ k : Nat, rdI (x :: L) ((k + 1 : Nat) : Int) = rdI L (k : Int) := by intro k; simp [rdI]
      rw [e] at h1 h2
      refine ⟨h1, fun h0 => ?_⟩
      have := h2 (by omega)
      rw [show ((i + 1 - 1 : Nat) : Int) = ((i - 1 + 1 : Nat) : Int) by omega, e] at this
      exact this
    have hs := ih h'
    refine List.pairwise_cons.2 ⟨fun y hy => ?_, hs⟩
    cases L with
    | nil => exact absurd hy (by simp)
    | cons z L =>
      have h1 := (h 1 (by simp)).2 (by omega)
      have hxz : x < z := by simpa [rdI] using h1
      rcases List.mem_cons.1 hy with rfl | hy
      · exact hxz
      · have := (List.pairwise_cons.1 hs).1 y hy
        omega
structure Bfs (lists : List (List Int)) (m : Nat) (x : Int) (n : Nat) (o q : List Int) : Prop where
  spi : SpI lists m x o q
  xin : x ∈ q
  zero : rdI o x = 0
  srt : q.Pairwise fun a b => rdI o a ≤ rdI o b
  pre : ∀ y ∈ q, y = x ∨ ∃ u ∈ q, y ∈ rdL lists u ∧ rdI o y = rdI o u + 1
  clo : ∀ i : Nat, i < n → ∀ z ∈ rdL lists (rdI q i), z ∈ q ∧ rdI o z ≤ rdI o (rdI q i) + 1
  bnd : n < q.length → ∀ y ∈ q, rdI o y ≤ rdI o (rdI q n) + 1
theorem spF_keep {lists : List (List Int)} {m : Nat} {x u z : Int} {s : List Int × List Int} (h : SpI lists m x s.1 s.2) (hz : InN m z) : ∀ y ∈ s.2, rdI (spF u s z).1 y = rdI s.1 y := by
  intro y hy
  unfold spF
  by_cases hc : rdI s.1 z < 0
  · rw [if_pos hc]
    obtain ⟨i, hi, rfl⟩ := nat_of hz
    have hyn : y ≠ (i : Int) := by
      rintro rfl
      have := (h.2.2.1 _ hz).2 hy
      omega
    simp only []
    rw [rdI_set (by rw [h.1]; exact hi) _ y (h.2.1.2 y hy).1, if_neg hyn]
  · rw [if_neg hc]
theorem spF_new {u z : Int} {s : List Int × List Int} {m : Nat} (hl : s.1.length = m) (hz : InN m z) (hc : rdI s.1 z < 0) : rdI (spF u s z).1 z = rdI s.1 u + 1 ∧ (spF u s z).2 = s.2 ++ [z] := by
  unfold spF
  rw [if_pos hc]
  obtain ⟨i, hi, rfl⟩ := nat_of hz
  simp only []
  rw [rdI_set (by omega) _ _ hz.1, if_pos rfl]
  exact ⟨rfl, trivial⟩
theorem bfs_step {lists : List (List Int)} {m n : Nat} {x z : Int} {s : List Int × List Int} (h : Bfs lists m x n s.1 s.2) (hn : n < s.2.length) (hz : InN m z) (hr : z ∈ rdL lists (rdI s.2 n)) :
    Bfs lists m x n (spF (rdI s.2 n) s z).1 (spF (rdI s.2 n) s z).2 ∧ (∃ t, (spF (rdI s.2 n) s z).2 = s.2 ++ t) ∧ z ∈ (spF (rdI s.2 n) s z).2 ∧ rdI (spF (rdI s.2 n) s z).1 z ≤ rdI s.1 (rdI s.2 n) + 1 := by
  have hu : rdI s.2 n ∈ s.2 := by rw [rdI_n hn]; exact List.getElem_mem hn
  obtain ⟨f1, ⟨t, f2⟩, f3⟩ := spF_ok h.spi hu hz hr
  have hk := spF_keep (u := rdI s.2 n) h.spi hz
  have hget : ∀ i : Nat, i < s.2.length → rdI (spF (rdI s.2 n) s z).2 i = rdI s.2 i := by
    intro i hi
    rw [f2, rdI_n (by simp; omega), rdI_n hi, List.getElem_append_left hi]
  by_cases hc : rdI s.1 z < 0
  · obtain ⟨g1, g2⟩ := spF_new (u := rdI s.2 n) h.spi.1 hz hc
    have hmem : ∀ y, y ∈ (spF (rdI s.2 n) s z).2 ↔ y ∈ s.2 ∨ y = z := by intro y; rw [g2]; simp
    refine ⟨⟨f1, (hmem _).2 (.inl h.xin), by rw [hk _ h.xin]; exact h.zero, ?_, ?_, ?_, ?_⟩, ⟨t, f2⟩, f3, by rw [g1]; exact Int.le_refl _⟩
    · rw [g2]
      refine List.pairwise_append.2 ⟨?_, List.pairwise_singleton .., ?_⟩
      · refine List.Pairwise.imp_of_mem (fun {a b} ha hb hab => ?_) h.srt
        rw [hk a ha, hk b hb]
        exact hab
      · intro a ha b hb
        simp at hb
        subst hb
        rw [g1, hk a ha]
        exact h.bnd hn a ha
    · intro y hy
      rcases (hmem y).1 hy with hy | rfl
      · rcases h.pre y hy with rfl | ⟨u, hu1, hu2, hu3⟩
        · exact .inl rfl
        · exact .inr ⟨u, (hmem u).2 (.inl hu1), hu2, by rw [hk y hy, hk u hu1]; exact hu3⟩
      · exact .inr ⟨_, (hmem _).2 (.inl hu), hr, by rw [g1, hk _ hu]⟩
    · intro i hi y hy
      rw [hget i (by omega)] at hy ⊢
      obtain ⟨c1, c2⟩ := h.clo i hi y hy
      have : rdI s.2 i ∈ s.2 := by rw [rdI_n (by omega)]; exact List.getElem_mem _
      exact ⟨(hmem y).2 (.inl c1), by rw [hk _ c1, hk _ this]; exact c2⟩
    · intro _ y hy
      rw [hget n hn, hk _ hu]
      rcases (hmem y).1 hy with hy | rfl
      · rw [hk y hy]; exact h.bnd hn y hy
      · rw [g1]; exact Int.le_refl _
  · have e : spF (rdI s.2 n) s z = s := by unfold spF; rw [if_neg hc]
    rw [e] at f3 ⊢
    exact ⟨h, ⟨[], by simp⟩, f3, h.bnd hn z f3⟩
noncomputable def bfsR (lists : List (List Int)) : Nat → Nat → List Int → List Int → List Int
  | 0, _, o, _ => o
  | d + 1, n, o, q => if n < q.length then
      bfsR lists d (n + 1) ((rdL lists (rdI q n)).foldl (spF (rdI q n)) (o, q)).1 ((rdL lists (rdI q n)).foldl (spF (rdI q n)) (o, q)).2 else o
def okLists (lists : List (List Int)) (m : Nat) : Prop := lists.length = m ∧ ∀ l ∈ lists, l.length ≤ 1048576 ∧ ∀ z ∈ l, InN m z
theorem okL_row {lists : List (List Int)} {m : Nat} (h : okLists lists m) {u : Int} (hu : InN m u) : (rdL lists u).length ≤ 1048576 ∧ ∀ z ∈ rdL lists u, InN m z := by
  obtain ⟨i, hi, rfl⟩ := nat_of hu
  rw [rdL_n (by rw [h.1]; exact hi)]
  exact h.2 _ (List.getElem_mem _)
theorem bfs_round {lists : List (List Int)} {m n : Nat} {x : Int} (hl : okLists lists m) {o q : List Int} (h : Bfs lists m x n o q) (hn : n < q.length) : ∀ (row : List Int) (s : List Int × List Int), (∀ z ∈ row, z ∈ rdL lists (rdI q n)) → Bfs lists m x n s.1 s.2 → (∃ t, s.2 = q ++ t) → rdI s.1 (rdI q n) = rdI o (rdI q n) →
    Bfs lists m x n (row.foldl (spF (rdI q n)) s).1 (row.foldl (spF (rdI q n)) s).2 ∧ (∃ t, (row.foldl (spF (rdI q n)) s).2 = q ++ t) ∧ rdI (row.foldl (spF (rdI q n)) s).1 (rdI q n) = rdI o (rdI q n) ∧
      (∀ y ∈ s.2, y ∈ (row.foldl (spF (rdI q n)) s).2 ∧ rdI (row.foldl (spF (rdI q n)) s).1 y = rdI s.1 y) ∧ ∀ z ∈ row, z ∈ (row.foldl (spF (rdI q n)) s).2 ∧ rdI (row.foldl (spF (rdI q n)) s).1 z ≤ rdI o (rdI q n) + 1 := by
  intro row
  induction row with
  | nil => intro s _ h1 h2 h3; exact ⟨h1, h2, h3, fun y hy => ⟨hy, rfl⟩, by simp⟩
  | cons z row ih =>
    intro s hrow h1 h2 h3
    obtain ⟨t, ht⟩ := h2
    have hu : rdI q n ∈ q := by rw [rdI_n hn]; exact List.getElem_mem hn
    have hum := h.spi.2.1.2 _ hu
    have hz := (okL_row hl (show InN m (rdI q n) from hum)).2 z (hrow z (List.mem_cons_self ..))
    have hsn : rdI s.2 n = rdI q n := by rw [ht, rdI_n (by simp; omega), rdI_n hn, List.getElem_append_left hn]
    have hus : rdI q n ∈ s.2 := by rw [ht]; exact List.mem_append_left _ hu
    have hstep := bfs_step (n := n) (z := z) h1 (by rw [ht]; simp; omega) hz (by rw [hsn]; exact hrow z (List.mem_cons_self ..))
    rw [hsn] at hstep
    obtain ⟨g1, ⟨t', g2⟩, g3, g4⟩ := hstep
    have hk := spF_keep (u := rdI q n) h1.spi hz
    obtain ⟨i1, i2, i3, i4, i5⟩ := ih (spF (rdI q n) s z) (fun z' hz' => hrow z' (List.mem_cons_of_mem _ hz')) g1 ⟨t ++ t', by rw [g2, ht, List.append_assoc]⟩ (by rw [hk _ hus, h3])
    rw [List.foldl_cons]
    refine ⟨i1, i2, i3, fun y hy => ?_, fun y hy => ?_⟩
    · have hy' : y ∈ (spF (rdI q n) s z).2 := by rw [g2]; exact List.mem_append_left _ hy
      obtain ⟨j1, j2⟩ := i4 y hy'
      exact ⟨j1, by rw [j2, hk y hy]⟩
    · rcases List.mem_cons.1 hy with rfl | hy
      · obtain ⟨j1, j2⟩ := i4 y g3
        rw [j2]
        exact ⟨j1, by rw [← h3]; exact g4⟩
      · exact i5 y hy
theorem bfs_next {lists : List (List Int)} {m n : Nat} {x : Int} (hl : okLists lists m) {o q : List Int} (h : Bfs lists m x n o q) (hn : n < q.length) :
    Bfs lists m x (n + 1) ((rdL lists (rdI q n)).foldl (spF (rdI q n)) (o, q)).1 ((rdL lists (rdI q n)).foldl (spF (rdI q n)) (o, q)).2 ∧ ∃ t, ((rdL lists (rdI q n)).foldl (spF (rdI q n)) (o, q)).2 = q ++ t := by
  obtain ⟨h1, ⟨t, h2⟩, h3, h4, h5⟩ := bfs_round hl h hn (rdL lists (rdI q n)) (o, q) (fun _ h => h) h ⟨[], by simp⟩ rfl
  refine ⟨⟨h1.spi, h1.xin, h1.zero, h1.srt, h1.pre, fun i hi z hz => ?_, fun hn' y hy => ?_⟩, t, h2⟩
  · have hget : rdI ((rdL lists (rdI q n)).foldl (spF (rdI q n)) (o, q)).2 i = rdI q i := by
      rw [h2, rdI_n (by simp; omega), rdI_n (by omega), List.getElem_append_left (by omega)]
    by_cases hin : i = n
    · subst hin
      rw [hget] at hz ⊢
      obtain ⟨g1, g2⟩ := h5 z hz
      exact ⟨g1, by rw [h3]; exact g2⟩
    · exact h1.clo i (by omega) z hz
  · have hb := h1.bnd (by rw [h2]; simp; omega) y hy
    have hs := List.pairwise_iff_getElem.1 h1.srt n (n + 1) (by omega) hn' (by omega)
    have e1 := rdI_n (xs := ((rdL lists (rdI q n)).foldl (spF (rdI q n)) (o, q)).2) (n := n) (by omega)
    have e2 := rdI_n hn'
    rw [e1] at hb
    rw [e2]
    omega
theorem bfsR_ok {lists : List (List Int)} {m : Nat} {x : Int} (hl : okLists lists m) : ∀ (d n : Nat) (o q : List Int), n + d = m → n ≤ q.length → Bfs lists m x n o q → ∃ q', Bfs lists m x q'.length (bfsR lists d n o q) q' := by
  intro d
  induction d with
  | zero =>
    intro n o q hd hn h
    have := inM_len h.spi.2.1
    exact ⟨q, by rw [show q.length = n by omega]; exact h⟩
  | succ d ih =>
    intro n o q hd hn h
    unfold bfsR
    by_cases hq : n < q.length
    · rw [if_pos hq]
      obtain ⟨h1, t, h2⟩ := bfs_next hl h hq
      exact ih (n + 1) _ _ (by omega) (by rw [h2]; simp; omega) h1
    · rw [if_neg hq]
      exact ⟨q, by rw [show q.length = n by omega]; exact h⟩
noncomputable def bfsD (lists : List (List Int)) (m : Nat) (x : Int) : List Int := bfsR lists m 0 (tSet (List.replicate m (-1)) x 0) [x]
theorem bfs_init {lists : List (List Int)} {m : Nat} {x : Int} (hx : InN m x) : Bfs lists m x 0 (tSet (List.replicate m (-1)) x 0) [x] := by
  obtain ⟨i, hi, rfl⟩ := nat_of hx
  have hrep : ∀ y, InN m y → rdI (List.replicate m (-1 : Int)) y = -1 := by
    intro y hy
    obtain ⟨k, hk, rfl⟩ := nat_of hy
    rw [rdI_n (by simp; exact hk)]
    simp
  have hv : ∀ y, InN m y → rdI (tSet (List.replicate m (-1)) (i : Int) 0) y = if y = i then 0 else -1 := by
    intro y hy
    rw [rdI_set (by simp; exact hi) _ y hy.1]
    by_cases hyi : y = i
    · rw [if_pos hyi, if_pos hyi]
    · rw [if_neg hyi, if_neg hyi, hrep y hy]
  refine ⟨⟨by rw [tSet_n]; simp, ⟨by simp, fun z hz => by simp at hz; rw [hz]; exact hx⟩, fun y hy => ?_, fun y hy => ?_, fun y hy => by simp at hy; rw [hy]; exact .base⟩, by simp, ?_, List.pairwise_singleton .., fun y hy => .inl (by simpa using hy), fun i hi => absurd hi (Nat.not_lt_zero i), fun _ y hy => ?_⟩
  · rw [hv y hy]
    by_cases hyi : y = i <;> simp [hyi]
  · rw [hv y hy]
    by_cases hyi : y = i <;> simp [hyi]
  · rw [hv _ hx, if_pos rfl]
  · simp at hy
    have e0 : rdI [(i : Int)] ((0 : Nat) : Int) = i := by simp [rdI]
    rw [hy, e0, hv _ hx, if_pos rfl]
    omega
inductive Wl (lists : List (List Int)) (x : Int) : Nat → Int → Prop
  | base : Wl lists x 0 x
  | step {k : Nat} {y z : Int} : Wl lists x k y → z ∈ rdL lists y → Wl lists x (k + 1) z
theorem bfsD_spec {lists : List (List Int)} {m : Nat} {x : Int} (hl : okLists lists m) (hx : InN m x) :
    (bfsD lists m x).length = m ∧ rdI (bfsD lists m x) x = 0 ∧ (∀ y, InN m y → rdI (bfsD lists m x) y < m) ∧ (∀ y, InN m y → rdI (bfsD lists m x) y = 0 → y = x) ∧
      (∀ y, InN m y → 0 ≤ rdI (bfsD lists m x) y → Wl lists x (rdI (bfsD lists m x) y).toNat y) ∧ ∀ k y, Wl lists x k y → InN m y ∧ 0 ≤ rdI (bfsD lists m x) y ∧ rdI (bfsD lists m x) y ≤ k := by
  obtain ⟨q, h⟩ := bfsR_ok (x := x) hl m 0 _ [x] (by omega) (by simp) (bfs_init hx)
  have hqm := inM_len h.spi.2.1
  have e : bfsR lists m 0 (tSet (List.replicate m (-1)) x 0) [x] = bfsD lists m x := rfl
  rw [e] at h
  refine ⟨h.spi.1, h.zero, fun y hy => by have := h.spi.2.2.2.1 y hy; omega, fun y hy h0 => ?_, fun y hy h0 => ?_, fun k y hw => ?_⟩
  · have hyq := (h.spi.2.2.1 y hy).1 (by omega)
    rcases h.pre y hyq with h1 | ⟨u, hu1, _, hu3⟩
    · exact h1
    · have := (h.spi.2.2.1 u (h.spi.2.1.2 u hu1)).2 hu1
      omega
  · have key : ∀ (k : Nat) (y : Int), InN m y → rdI (bfsD lists m x) y = k → Wl lists x k y := by
      intro k
      induction k with
      | zero =>
        intro y hy hk
        have hyq := (h.spi.2.2.1 y hy).1 (by omega)
        rcases h.pre y hyq with h1 | ⟨u, hu1, _, hu3⟩
        · rw [h1]; exact .base
        · have := (h.spi.2.2.1 u (h.spi.2.1.2 u hu1)).2 hu1
          omega
      | succ k ih =>
        intro y hy hk
        have hyq := (h.spi.2.2.1 y hy).1 (by omega)
        rcases h.pre y hyq with h1 | ⟨u, hu1, hu2, hu3⟩
        · rw [h1, h.zero] at hk; omega
        · exact .step (ih u (h.spi.2.1.2 u hu1) (by omega)) hu2
    exact key _ y hy (by omega)
  · have key : y ∈ q ∧ rdI (bfsD lists m x) y ≤ k := by
      induction hw with
      | base => exact ⟨h.xin, by rw [h.zero]; exact Int.le_refl _⟩
      | @step k y z _ hz ih =>
        obtain ⟨i, hi, rfl⟩ := List.getElem_of_mem ih.1
        have := h.clo i hi z (by rw [rdI_n hi]; exact hz)
        rw [rdI_n hi] at this
        exact ⟨this.1, by omega⟩
    exact ⟨h.spi.2.1.2 y key.1, (h.spi.2.2.1 y (h.spi.2.1.2 y key.1)).2 key.1, key.2⟩
theorem l2Spread_bfs {N : Nat} {lists : List (List Int)} {m : Nat} {x : Int} (hl : okLists lists m) (hm : m ≤ 1048575) (hx : InN m x) (hN : 1048577 ≤ N) : Zq83 N lists x = some ((bfsD lists m x, ()), ()) := by
  have go : ∀ (d n K : Nat) (o q : List Int), n + d = m → d < K → n ≤ q.length → Bfs lists m x n o q →
      Zq83_l1 N (fun o1 => some ((o1, ()), ())) K lists n o q = some ((bfsR lists d n o q, ()), ()) := by
    intro d
    induction d with
    | zero =>
      intro n K o q hd hK hn hs
      obtain ⟨k, rfl⟩ := succ_of hK
      have hqm := inM_len hs.spi.2.1
      simp only [Zq83_l1, ilt_lenf (show ¬ n < q.length by omega), br_f]
      rfl
    | succ d ih =>
      intro n K o q hd hK hn hs
      obtain ⟨k, rfl⟩ := succ_of hK
      have hqm := inM_len hs.spi.2.1
      unfold bfsR
      by_cases hnq : n < q.length
      · have huq : rdI q n ∈ q := by rw [rdI_n hnq]; exact List.getElem_mem hnq
        have hum := hs.spi.2.1.2 _ huq
        obtain ⟨hr1, hr2⟩ := okL_row hl (show InN m (rdI q n) from hum)
        simp only [Zq83_l1, ilt_len hnq, br_t, inb_n hnq, chk_t]
        rw [inb_i hum.1 (by rw [hl.1]; exact hum.2), chk_t, if_pos hnq]
        have key := loop_list (xs := rdL lists (rdI q n)) (L := fun K' i (s : List Int × List Int) => Zq83_l1_0 N (fun x4 x5 o3 o4 => Zq83_l1 N (fun o1 => some ((o1, ()), ())) k x4 (IntKind.i64.wrap (x5 + 1)) o3 o4) K' lists n (rdL lists (rdI q n)) i s.1 s.2)
          (k := fun s => Zq83_l1 N (fun o1 => some ((o1, ()), ())) k lists (IntKind.i64.wrap ((n : Int) + 1)) s.1 s.2) (spF (rdI q n)) (fun i s => Bfs lists m x n s.1 s.2 ∧ ∃ t, s.2 = q ++ t) (fun K' i s hi _ => ?_) (fun K' i s hi hI => ?_) (fun i s hi hI => ?_) (s := (o, q)) (K := N) (by omega) ⟨hs, [], by simp⟩
        · simp only [Int.natCast_zero] at key
          rw [key.1, wrap_succ (by omega)]
          obtain ⟨h1, t, h2⟩ := bfs_next hl hs hnq
          exact ih (n + 1) k _ _ (by omega) (by omega) (by rw [h2]; simp; omega) h1
        · simp only [Zq83_l1_0, ilt_lenf hi, br_f]
        · obtain ⟨hI1, ⟨t, ht⟩⟩ := hI
          have hz := hr2 _ (List.getElem_mem hi)
          have hsl := inM_len hI1.spi.2.1
          have hns : n < s.2.length := by rw [ht]; simp; omega
          have hrn : rdI s.2 n = rdI q n := by rw [ht, rdI_n (by simp; omega), rdI_n hnq, List.getElem_append_left hnq]
          have hus : rdI q n ∈ s.2 := by rw [ht]; exact List.mem_append_left _ huq
          have hval := (hI1.spi.2.2.1 _ hum).2 hus
          have hval2 := hI1.spi.2.2.2.1 _ hum
          have hlen := hI1.spi.1
          simp only [Zq83_l1_0, ilt_len hi, br_t, inb_n hi, chk_t, rdI_n hi]
          rw [inb_i hz.1 (by have := hz.2; omega), chk_t]
          unfold spF
          by_cases hcc : rdI s.1 (rdL lists (rdI q n))[i] < 0
          · rw [ilt_t hcc, br_t, if_pos hcc, inb_n hns, chk_t, hrn, inb_i hum.1 (by rw [hlen]; exact hum.2), chk_t, chk_t, room_ok (by simp; omega), chk_t, wrap_succ (by omega), wrap_ok (by omega) (by omega), tApp_d]
          · rw [ilt_f hcc, br_f, if_neg hcc, wrap_succ (by omega)]
        · obtain ⟨hI1, ⟨t, ht⟩⟩ := hI
          have hns : n < s.2.length := by rw [ht]; simp; omega
          have hrn : rdI s.2 n = rdI q n := by rw [ht, rdI_n (by simp; omega), rdI_n hnq, List.getElem_append_left hnq]
          have := bfs_step hI1 hns (hr2 _ (List.getElem_mem hi)) (by rw [hrn]; exact List.getElem_mem hi)
          rw [hrn] at this
          obtain ⟨g1, ⟨t', g2⟩, _⟩ := this
          exact ⟨g1, t ++ t', by rw [g2, ht, List.append_assoc]⟩
      · simp only [Zq83_l1, ilt_lenf hnq, br_f]
        rw [if_neg hnq]
  have fill : ∀ (d n K : Nat) (k0 : List (List Int) → Int → List Int → Option ((List Int × Unit) × Unit)), n + d = m → d < K →
      Zq83_l0 N k0 K lists x n (List.replicate n (-1) ++ List.replicate d 0) = k0 lists x (List.replicate m (-1)) := by
    intro d
    induction d with
    | zero =>
      intro n K k0 hd hK
      obtain ⟨k, rfl⟩ := succ_of hK
      have hln : (List.replicate n (-1 : Int) ++ List.replicate 0 0).length = n := by simp
      simp only [Zq83_l0, ilt_lenf (show ¬ n < (List.replicate n (-1 : Int) ++ List.replicate 0 0).length by omega), br_f]
      have : n = m := by omega
      subst this
      simp
    | succ d ih =>
      intro n K k0 hd hK
      obtain ⟨k, rfl⟩ := succ_of hK
      have hn : n < (List.replicate n (-1 : Int) ++ List.replicate (d + 1) 0).length := by simp
      simp only [Zq83_l0, ilt_len hn, br_t, inb_n hn, chk_t]
      rw [wrap_succ (by omega), ← ih (n + 1) k k0 (by omega) (by omega), tSet_n]
      congr 1
      rw [List.replicate_succ' (n := n), List.replicate_succ, List.set_append_right _ _ (by simp)]
      simp
  unfold Zq83
  rw [tLen_n, hl.1, ile_t (by omega), ile_t (Int.le_refl _), fits_ok (by omega)]
  simp only [Bool.and_self, chk_t]
  have hf := fill m 0 N (fun x x1 o => (chk (inb o x1) (Zq83_l1 N (fun o1 => some ((o1, ()), ())) N x 0 (tSet o x1 0) [x1]))) (by omega) (by omega)
  rw [tRep_n]
  simp only [Int.natCast_zero, List.replicate_zero, List.nil_append] at hf
  rw [hf, inb_i hx.1 (by simp; exact hx.2), chk_t]
  exact go m 0 N _ _ (by omega) (by omega) (by simp) (bfs_init hx)
theorem shr32 {n : Nat} (h : n < 4294967296) : shrI .u64 (n : Int) 32 = 0 := by
  unfold shrI
  have : (n : Int).fdiv (2 ^ (min (32 : Int).toNat IntKind.u64.bits)) = (n : Int).fdiv 4294967296 := rfl
  rw [this, Int.fdiv_eq_ediv_of_nonneg _ (by omega)]
  omega
theorem and32 {n : Nat} (h : n < 4294967296) : bitop .and .u64 (n : Int) 4294967295 = n := by
  have := andN (a := n) (b := 4294967295) h (by omega)
  rw [show ((4294967295 : Nat) : Int) = 4294967295 from rfl] at this
  rw [this, show (4294967295 : Nat) = 2 ^ 32 - 1 from rfl, Nat.and_two_pow_sub_one_eq_mod]
  omega
theorem mul64_one {N m : Nat} (h : m < 4294967296) : Zq48 N 1 (m : Int) = some ((0, (m : Int), ()), ()) := by
  have e1 : shrI .u64 1 32 = 0 := by have := shr32 (n := 1) (by omega); exact this
  have e2 : bitop .and .u64 1 4294967295 = 1 := by have := and32 (n := 1) (by omega); exact this
  have w0 : IntKind.u64.wrap 0 = 0 := by have := wrap64 (n := 0) (by omega); exact this
  have e3 : shrI .u64 0 32 = 0 := by have := shr32 (n := 0) (by omega); exact this
  have e4 : bitop .and .u64 0 4294967295 = 0 := by have := and32 (n := 0) (by omega); exact this
  unfold Zq48 Zq49
  simp only [e1, e2, shr32 h, and32 h, Int.zero_mul, Int.mul_zero, Int.one_mul, wrap64 (show m < 18446744073709551616 by omega), w0, Int.zero_add, Int.add_zero, e3, e4, bind_some']
theorem tMin_n (a b : Nat) : tMin (a : Int) (b : Int) = ((min a b : Nat) : Int) := by
  unfold tMin
  by_cases h : a ≤ b
  · rw [ile_t (by omega), Nat.min_eq_left h]; rfl
  · rw [ile_f (by omega), Nat.min_eq_right (by omega)]; rfl
theorem tPut_n {α : Type} (xs ys : List α) (l : Nat) : tPut xs (l : Int) ys = xs.take l ++ ys ++ xs.drop (l + ys.length) := by simp [tPut]
theorem Repeat_eq {N m : Nat} {v : Int} (hm : m ≤ 1048576) (hN : 1048577 ≤ N) : Zq58 N [v] (m : Int) = some ((List.replicate m v, ()), ()) := by
  have go : ∀ (d n K : Nat), n + d = m → d < K → (0 < n ∨ m = 0) → Zq58_l0 N (fun o => some ((o, ()), ())) K n (List.replicate n v ++ List.replicate d 0) = some ((List.replicate m v, ()), ()) := by
    intro d
    induction d using Nat.strongRecOn with
    | _ d ih =>
      intro n K hd hK hn
      obtain ⟨k, rfl⟩ := succ_of hK
      have hlen : (List.replicate n v ++ List.replicate d 0).length = m := by simp; omega
      simp only [Zq58_l0]
      rw [tLen_n, hlen]
      by_cases h0 : d = 0
      · subst h0
        have : n = m := by omega
        subst this
        rw [ilt_nf (Nat.lt_irrefl n), br_f]
        simp
      · have hc0 : tCut (List.replicate n v ++ List.replicate d 0) 0 (n : Int) = List.replicate n v := by
          rw [show (0 : Int) = ((0 : Nat) : Int) from rfl, tCut_n]
          simp
        have hmin : tMin ((m : Int) - (n : Int)) (tLen (List.replicate n v)) = ((min d n : Nat) : Int) := by
          rw [tLen_n, List.length_replicate, show (m : Int) - (n : Int) = (d : Int) by omega, tMin_n]
        have hc1 : tCut (List.replicate n v) 0 ((min d n : Nat) : Int) = List.replicate (min d n) v := by
          rw [show (0 : Int) = ((0 : Nat) : Int) from rfl, tCut_n, List.take_replicate, List.drop_zero]
          congr 1
          omega
        rw [ilt_n (show n < m by omega), br_t, ile_t (show (0 : Int) ≤ (n : Int) by omega), ile_t (show (n : Int) ≤ (m : Int) by omega), ile_t (Int.le_refl (m : Int)), ile_t (Int.le_refl (0 : Int))]
        simp only [Bool.and_self, chk_t]
        rw [hc0, hmin, hc1]
        have hput : tPut (List.replicate n v ++ List.replicate d 0) (n : Int) (List.replicate (min d n) v) = List.replicate (n + min d n) v ++ List.replicate (d - min d n) 0 := by
          rw [tPut_n, List.take_left' (by simp), List.drop_append, List.length_replicate, List.length_replicate]
          rw [List.drop_of_length_le (by simp), List.nil_append, List.drop_replicate, List.replicate_append_replicate]
          congr 2
          omega
        rw [hput, wrap_ok (by omega) (by omega), show (n : Int) + ((min d n : Nat) : Int) = ((n + min d n : Nat) : Int) by omega]
        exact ih (d - min d n) (by omega) (n + min d n) k (by omega) (by omega) (.inl (by omega))
  unfold Zq58
  rw [ilt_f (by omega), br_f, show tLen [v] = ((1 : Nat) : Int) from rfl, wrap64 (by omega), wrap64 (by omega), show (((1 : Nat) : Int)) = 1 from rfl, mul64_one (by omega)]
  simp only [bind_some']
  rw [ilt_f (Int.lt_irrefl 0), br_f, ilt_f (by omega), br_f, wrap_ok (by omega) (by omega), ile_t (by omega), ile_t (Int.le_refl _), fits_ok (by omega)]
  simp only [Bool.and_self, chk_t]
  rw [tRep_n, tLen_n, List.length_replicate, show (1 : Int) = ((1 : Nat) : Int) from rfl, tMin_n]
  have hc : tCut [v] 0 ((min m 1 : Nat) : Int) = List.replicate (min m 1) v := by
    rw [show (0 : Int) = ((0 : Nat) : Int) from rfl, tCut_n]
    by_cases h0 : m = 0
    · subst h0; rfl
    · rw [show min m 1 = 1 by omega]; rfl
  have hp : tPut (List.replicate m (0 : Int)) 0 (List.replicate (min m 1) v) = List.replicate (min m 1) v ++ List.replicate (m - min m 1) 0 := by
    rw [show (0 : Int) = ((0 : Nat) : Int) from rfl, tPut_n]
    simp
  rw [hc, hp]
  exact go (m - min m 1) (min m 1) N (by omega) (by omega) (by omega)
theorem tCut_drop {xs : List Int} {a b : Nat} (h : b ≤ xs.length) (hab : a ≤ b) {n : Nat} {q : List Int} (hc : tCut xs (a : Int) (b : Int) = q.drop n) (hn : n ≤ q.length) : b - a = q.length - n := by
  have := congrArg List.length hc
  rw [tCut_n, List.length_drop, List.length_take, List.length_drop] at this
  omega
theorem spread_in_eq {R : Type} {N : Nat} (k0 : List (List Int) → Int → Int → List Int → List Int → Option R) {lists : List (List Int)} {m n : Nat} {x : Int} {row : List Int} (hN : 1048577 ≤ N) (hm : m ≤ 1048575) (hrl : row.length ≤ 1048576) (hrow : ∀ z ∈ row, InN m z) :
    ∀ (d i K : Nat) (lo hi : Nat) (o1 : List Int) (s : List Int × List Int) (u : Int), i + d = row.length → d < K → lo ≤ hi → hi ≤ o1.length → tCut o1 (lo : Int) (hi : Int) = s.2.drop (n + 1) → Bfs lists m x n s.1 s.2 → n < s.2.length → u = rdI s.2 n → (∀ z ∈ row, z ∈ rdL lists u) →
      ∃ (lo' hi' : Nat) (o1' : List Int), lo' ≤ hi' ∧ hi' ≤ o1'.length ∧ tCut o1' (lo' : Int) (hi' : Int) = ((row.drop i).foldl (spF u) s).2.drop (n + 1) ∧
        Zq39_l0_0 N k0 K lists lo hi u row (row.length : Int) i s.1 o1 = k0 lists lo' hi' ((row.drop i).foldl (spF u) s).1 o1' := by
  intro d
  induction d with
  | zero =>
    intro i K lo hi o1 s u hd hK hlh hho hc hb hn hu hr
    obtain ⟨k, rfl⟩ := succ_of hK
    simp only [Zq39_l0_0, ilt_nf (show ¬ i < row.length by omega), br_f]
    rw [List.drop_of_length_le (show row.length ≤ i by omega)]
    exact ⟨lo, hi, o1, hlh, hho, hc, rfl⟩
  | succ d ih =>
    intro i K lo hi o1 s u hd hK hlh hho hc hb hn hu hr
    obtain ⟨k, rfl⟩ := succ_of hK
    have hi' : i < row.length := by omega
    have hz := hrow _ (List.getElem_mem hi')
    have hus : u ∈ s.2 := by rw [hu, rdI_n hn]; exact List.getElem_mem hn
    have hum := hb.spi.2.1.2 u hus
    have hu0 := (hb.spi.2.2.1 u hum).2 hus
    have hu1 := hb.spi.2.2.2.1 u hum
    have hsl := inM_len hb.spi.2.1
    have hlen := hb.spi.1
    have hwin := tCut_drop hho hlh hc (by omega)
    have hstep := bfs_step hb hn hz (by rw [← hu]; exact hr _ (List.getElem_mem hi'))
    rw [← hu] at hstep
    obtain ⟨g1, ⟨t, g2⟩, _⟩ := hstep
    have hg3 : rdI (spF u s row[i]).2 n = u := by rw [g2, rdI_n (by simp; omega), List.getElem_append_left hn, ← rdI_n hn, hu]
    have hg4 : n < (spF u s row[i]).2.length := by rw [g2]; simp; omega
    have hdr : (row.drop i).foldl (spF u) s = (row.drop (i + 1)).foldl (spF u) (spF u s row[i]) := by rw [drop_cons hi', List.foldl_cons]
    rw [hdr]
    simp only [Zq39_l0_0, ilt_n hi', br_t, inb_n hi', chk_t, rdI_n hi']
    rw [inb_i hz.1 (by rw [hlen]; exact hz.2), chk_t, wrap_succ (by omega)]
    by_cases hcc : rdI s.1 row[i] < 0
    · have e : spF u s row[i] = (tSet s.1 row[i] (rdI s.1 u + 1), s.2 ++ [row[i]]) := by unfold spF; rw [if_pos hcc]
      rw [ilt_t hcc, br_t, inb_i hum.1 (by rw [hlen]; exact hum.2), chk_t, chk_t]
      have hcl : (tCut o1 (lo : Int) (hi : Int)).length = s.2.length - (n + 1) := by rw [hc, List.length_drop]
      rw [room_ok (by simp only [List.length_singleton]; omega), chk_t, wrap_ok (by omega) (by omega)]
      have key := ih (i + 1) k 0 (tApp (tCut o1 (lo : Int) (hi : Int)) [row[i]]).length (tApp (tCut o1 (lo : Int) (hi : Int)) [row[i]]) (spF u s row[i]) u (by omega) (by omega) (Nat.zero_le _) (Nat.le_refl _) (by
        rw [tCut_n, tApp_d, hc, e]
        simp only [List.take_length, List.drop_zero]
        rw [List.drop_append_of_le_length (by omega)]) g1 hg4 hg3.symm hr
      obtain ⟨lo', hi2, o2, k1, k2, k3, k4⟩ := key
      refine ⟨lo', hi2, o2, k1, k2, k3, ?_⟩
      rw [← k4, e]
      rfl
    · have e : spF u s row[i] = s := by unfold spF; rw [if_neg hcc]
      rw [ilt_f hcc, br_f]
      rw [e] at g1 hg3 hg4 ⊢
      exact ih (i + 1) k lo hi o1 s u (by omega) (by omega) hlh hho hc g1 hg4 hg3.symm hr
theorem spread_eq {N : Nat} {lists : List (List Int)} {m : Nat} {x : Int} (hl : okLists lists m) (hm : m ≤ 1048575) (hx : InN m x) (hN : 1048577 ≤ N) : Zq39 N lists x = some ((bfsD lists m x, ()), ()) := by
  have go : ∀ (d n K : Nat) (lo hi : Nat) (o o1 q : List Int), n + d = m → d < K → n ≤ q.length → lo ≤ hi → hi ≤ o1.length → tCut o1 (lo : Int) (hi : Int) = q.drop n → Bfs lists m x n o q →
      Zq39_l0 N (fun o1 => some ((o1, ()), ())) K lists lo hi o o1 = some ((bfsR lists d n o q, ()), ()) := by
    intro d
    induction d with
    | zero =>
      intro n K lo hi o o1 q hd hK hn hlh hho hc hb
      obtain ⟨k, rfl⟩ := succ_of hK
      have hqm := inM_len hb.spi.2.1
      have hwin := tCut_drop hho hlh hc hn
      simp only [Zq39_l0]
      rw [ilt_f (by omega), br_f]
      rfl
    | succ d ih =>
      intro n K lo hi o o1 q hd hK hn hlh hho hc hb
      obtain ⟨k, rfl⟩ := succ_of hK
      have hqm := inM_len hb.spi.2.1
      have hwin := tCut_drop hho hlh hc hn
      simp only [Zq39_l0]
      unfold bfsR
      by_cases hnq : n < q.length
      · have hhead : rdI o1 ((lo : Int) + 0) = rdI q n := by
          rw [Int.add_zero, rdI_n (by omega), rdI_n hnq]
          have h1 : (tCut o1 (lo : Int) (hi : Int))[0]? = (q.drop n)[0]? := by rw [hc]
          rw [tCut_n, List.getElem?_drop, List.getElem?_take, if_pos (by omega), List.getElem?_drop, Nat.add_zero, Nat.add_zero, List.getElem?_eq_getElem (by omega), List.getElem?_eq_getElem hnq] at h1
          injection h1
        have huq : rdI q n ∈ q := by rw [rdI_n hnq]; exact List.getElem_mem hnq
        have hum := hb.spi.2.1.2 _ huq
        obtain ⟨hr1, hr2⟩ := okL_row hl (show InN m (rdI q n) from hum)
        rw [ilt_t (show (0 : Int) < (hi : Int) - (lo : Int) by omega), br_t, ile_t (Int.le_refl 0), ile_t (show (0 : Int) ≤ 1 by omega), ile_t (show (1 : Int) ≤ (hi : Int) - (lo : Int) by omega), ile_t (Int.le_refl ((hi : Int) - (lo : Int)))]
        simp only [Bool.and_self, chk_t]
        rw [hhead, inb_i hum.1 (by rw [hl.1]; exact hum.2), chk_t, tLen_n, if_pos hnq]
        have hc' : tCut o1 ((lo + 1 : Nat) : Int) (hi : Int) = q.drop (n + 1) := by
          rw [tCut_n] at hc ⊢
          rw [← List.drop_drop, hc, List.drop_drop]
        obtain ⟨lo', hi', o1', g1, g2, g3, g4⟩ := spread_in_eq (N := N) (fun roads2 queue2 queue3 o2 o3 => Zq39_l0 N (fun o1 => some ((o1, ()), ())) k roads2 queue2 queue3 o2 o3) hN hm hr1 hr2 (rdL lists (rdI q n)).length 0 N (lo + 1) hi o1 (o, q) (rdI q n) (by omega) (by omega) (by omega) hho hc' hb hnq rfl (fun _ h => h)
        simp only [Int.natCast_zero, List.drop_zero] at g3 g4
        rw [show (lo : Int) + 1 = ((lo + 1 : Nat) : Int) by omega, show (lo : Int) + ((hi : Int) - (lo : Int)) = (hi : Int) by omega, g4]
        obtain ⟨h1, t, h2⟩ := bfs_next hl hb hnq
        exact ih (n + 1) k lo' hi' _ o1' _ (by omega) (by omega) (by rw [h2]; simp; omega) g1 g2 g3 h1
      · rw [ilt_f (by omega), br_f, if_neg hnq]
  unfold Zq39
  rw [tLen_n, hl.1, Repeat_eq (by omega) hN]
  simp only [bind_some']
  rw [inb_i hx.1 (by simp; exact hx.2), chk_t]
  exact go m 0 N 0 1 _ [x] [x] (by omega) (by omega) (by simp) (by omega) (by simp) (by rw [tCut_n]; rfl) (bfs_init hx)
theorem sum_le {α : Type} {f : α → Nat} {b : Nat} : ∀ {xs : List α}, (∀ x ∈ xs, f x ≤ b) → (xs.map f).sum ≤ xs.length * b := by
  intro xs
  induction xs with
  | nil => intro _; simp
  | cons x xs ih =>
    intro h
    have h1 := h x (List.mem_cons_self ..)
    have h2 := ih fun y hy => h y (List.mem_cons_of_mem _ hy)
    rw [List.map_cons, List.sum_cons, List.length_cons, Nat.add_mul]
    omega
def lexC : List Int → List Int → Int
  | [], [] => 0
  | [], _ :: _ => -1
  | _ :: _, [] => 1
  | x :: a, y :: b => if x < y then -1 else if y < x then 1 else lexC a b
theorem lexC_anti : ∀ (a b : List Int), lexC b a = - lexC a b := by
  intro a
  induction a with
  | nil => intro b; cases b <;> rfl
  | cons x a ih =>
    intro b
    cases b with
    | nil => rfl
    | cons y b =>
      simp only [lexC]
      by_cases h1 : x < y
      · simp [h1, show ¬ y < x by omega]
      · by_cases h2 : y < x
        · simp [h1, h2]
        · simp [h1, h2, ih]
theorem lexC_self (a : List Int) : lexC a a = 0 := by have := lexC_anti a a; omega
theorem Compare_lex {N : Nat} {a b : List Int} (ha : a.length ≤ 1048576) (hb : b.length ≤ 1048576) (hN : 1048577 ≤ N) : Zq50 N a b = some ((lexC a b, ()), ()) := by
  unfold Zq50
  have go : ∀ (d n K : Nat), n + d = a.length → d < K → n ≤ b.length → lexC a b = lexC (a.drop n) (b.drop n) → Zq50_l0 N (fun x => some ((x, ()), ())) (fun s11 s21 => (br (ilt (tLen s11) (tLen s21)) (some (((-1), ()), ())) (some ((0, ()), ())))) K a b a (a.length : Int) n = some ((lexC a b, ()), ()) := by
    intro d
    induction d with
    | zero =>
      intro n K hd hK hn h
      obtain ⟨k, rfl⟩ := succ_of hK
      simp only [Zq50_l0, ilt_nf (show ¬ n < a.length by omega), br_f]
      rw [tLen_n, tLen_n, h, List.drop_of_length_le (show a.length ≤ n by omega)]
      by_cases hlt : a.length < b.length
      · rw [ilt_n hlt, br_t, drop_cons (show n < b.length by omega)]; rfl
      · rw [ilt_nf hlt, br_f, List.drop_of_length_le (show b.length ≤ n by omega)]; rfl
    | succ d ih =>
      intro n K hd hK hn h
      obtain ⟨k, rfl⟩ := succ_of hK
      have hna : n < a.length := by omega
      simp only [Zq50_l0, ilt_n hna, br_t, inb_n hna, chk_t]
      rw [drop_cons hna] at h
      by_cases hnb : n < b.length
      · rw [tLen_n, ile_f (by omega), br_f, inb_n hnb, chk_t, compare_eq, bind_some', rdI_n hna, rdI_n hnb]
        rw [drop_cons hnb] at h
        simp only [lexC] at h
        simp only []
        by_cases h1 : a[n] < b[n]
        · rw [if_pos h1] at h ⊢
          rw [ine_t (by omega), br_t, h]
        · rw [if_neg h1] at h ⊢
          by_cases h2 : b[n] < a[n]
          · rw [if_pos h2] at h ⊢
            rw [ine_t (by omega), br_t, h]
          · rw [if_neg h2] at h ⊢
            rw [ine_f rfl, br_f, wrap_succ (by omega)]
            exact ih (n + 1) k (by omega) (by omega) (by omega) h
      · rw [tLen_n, ile_t (by omega), br_t, h, List.drop_of_length_le (show b.length ≤ n by omega)]
        rfl
  exact go a.length 0 N (by omega) (by omega) (Nat.zero_le _) rfl
end Go.Proofs.YtfilchmabmfmaaaGreat
