/- Statements on data alone. -/
import Derived.Test.YtfilchmabmfmaaaGreatPvPure
import Derived.Test.YtfilchmabmfmaaaGreatClosuresGb
set_option linter.all false
set_option linter.all false
namespace Go.Proofs.YtfilchmabmfmaaaGreat
open Go Go.PV Classical
theorem allB_sorted {m : Nat} (h : m ≤ 6) : lexSorted (allB m) := pairB_sorted (List.all_eq_true.1 allBTab m (List.mem_range.2 (by omega)))
noncomputable def solsL (f : Int × List (List Int)) : List (List Int) := (allB f.1.toNat).filter fun b => decide (solves b f.2)
theorem spec_sols_eq {N : Nat} (hNe : N = 1048577) {f : Int × List (List Int)} (hf : goodF f) (hl : f.2.length ≤ 1048576) (hc : ∀ c ∈ f.2, c.length ≤ 1048576) : Zq80 N f = some ((solsL f, ()), ()) := by
  have hN : 1048577 ≤ N := by omega
  have h0 := hf.1
  obtain ⟨v, cs⟩ := f
  simp only at h0 hl hc
  obtain ⟨m, rfl⟩ : ∃ m : Nat, v = m := ⟨v.toNat, by omega⟩
  have h64 := pow_le64 (m := m) (by omega)
  have hbl := allB_len m
  unfold Zq80
  have hsp := allB_spec m (by omega)
  rw [← hNe] at hsp
  rw [hsp, bind_some']
  refine ((loop_list (xs := allB m) (L := fun K n o => Zq80_l0 N (fun o3 => some ((o3, ()), ())) K (allB m) n (m : Int) cs o) (k := fun o => some ((o, ()), ())) (fun o b => if solves b cs then o ++ [b] else o) (fun n o => o.length ≤ n) (fun K n s hn _ => ?_) (fun K n s hn hs => ?_) (fun n s hn hs => ?_) (s := []) (K := N) (by omega) (Nat.zero_le _)).1).trans ?_
  · simp only [Zq80_l0, ilt_lenf hn, br_f]
  · have hbr := allB_row (List.getElem_mem hn)
    simp only [Zq80_l0, ilt_len hn, br_t, inb_n hn, chk_t, rdL_n hn]
    rw [l6Solves_eq hl hc (by omega) (by rw [hbr]; exact goodF_lits hf) hN, bind_some', wrap_succ (by omega), room_ok (by simp; omega), chk_t, br_ite, tApp_d]
    by_cases h : solves (allB m)[n] cs <;> simp [h]
  · by_cases h : solves (allB m)[n] cs
    · rw [if_pos h]; simp; omega
    · rw [if_neg h]; omega
  · have go : ∀ (xs o : List (List Int)), xs.foldl (fun o b => if solves b cs then o ++ [b] else o) o = o ++ xs.filter fun b => decide (solves b cs) := by
      intro xs
      induction xs with
      | nil => intro o; simp
      | cons x xs ih =>
        intro o
        rw [List.foldl_cons, ih]
        by_cases h : solves x cs <;> simp [h]
    rw [go, List.nil_append]
    rfl
theorem impl_sols_eq {N : Nat} {f : Int × List (List Int)} (hf : goodF f) (hl : f.2.length ≤ 1048576) (hc : ∀ c ∈ f.2, c.length ≤ 1048576) (hN : 1048577 ≤ N) : Zq8 N f = some ((solsL f, ()), ()) := by
  have h0 := hf.1
  obtain ⟨v, cs⟩ := f
  simp only at h0 hl hc
  obtain ⟨m, rfl⟩ : ∃ m : Nat, v = m := ⟨v.toNat, by omega⟩
  have h64 := pow_le64 (m := m) (by omega)
  unfold Zq8
  have := assignments_eq hN (m := m) (is := fun y0 => (Zq9 N ((m : Int), cs) y0).bind fun z => some z.1.1) (p := fun b => decide (solves b cs)) (by omega) fun b hb => by
    have hbr := allB_row hb
    show (Zq9 N ((m : Int), cs) b).bind _ = _
    rw [impl_solves_eq hl hc (by omega) (by rw [hbr]; exact goodF_lits hf) hN, bind_some']
  simp only []
  rw [this, bind_some']
  rfl
theorem sols_ok {m : Nat} (hm : m ≤ 6) (p : List Int → Bool) : lexSorted ((allB m).filter p) ∧ (∀ x ∈ (allB m).filter p, x.length = m) ∧ ((allB m).filter p).length ≤ 64 ∧ okSp ((allB m).filter p, stepsL isCh ((allB m).filter p)) := by
  have h1 := List.length_filter_le p (allB m)
  rw [allB_len] at h1
  have h64 := pow_le64 hm
  have h2 : ∀ x ∈ (allB m).filter p, x.length = m := fun x hx => allB_row (List.mem_filter.1 hx).1
  have h3 := stepsL_len isCh ((allB m).filter p)
  have h4 : ((allB m).filter p).length * ((allB m).filter p).length ≤ 64 * 64 := Nat.mul_le_mul (by omega) (by omega)
  exact ⟨lexSorted_filter p (allB_sorted hm), h2, by omega, by simp only []; omega, fun r hr => by have := h2 r hr; omega, by simp only []; omega, by simp only []; omega⟩
theorem space_both {N m : Nat} (hm : m ≤ 6) (p : List Int → Bool) (hN : 1048577 ≤ N) : Zq82 N ((allB m).filter p) = some ((((allB m).filter p, stepsL isCh ((allB m).filter p)), ()), ()) ∧
    Zq29 N ((allB m).filter p) (fun y0 y1 => (Zq25 N y0 y1).bind fun z => some z.1.1) = some ((((allB m).filter p, stepsL isCh ((allB m).filter p)), ()), ()) := by
  obtain ⟨h1, h2, h3, _⟩ := sols_ok hm p
  refine ⟨l6Space_eq h2 (by omega) (by omega) hN, spaceOf_eq (p := isCh) h1 (fun x hx => by have := h2 x hx; omega) (by omega) (fun a ha b hb => ?_) hN⟩
  have e1 := h2 a ha
  have e2 := h2 b hb
  rw [isChange_eq (by omega) (by omega) hN]
  rfl
noncomputable def flipV (f : Int × List (List Int)) : (List (List Int) × List (Int × Int)) × Bool := if goodF f then ((solsL f, stepsL isCh (solsL f)), true) else (([], []), false)
theorem FlipSpace_both {N : Nat} (hNe : N = 1048577) {f : Int × List (List Int)} (hl : f.2.length ≤ 1048576) (hc : ∀ c ∈ f.2, c.length ≤ 1048576) : okSp (flipV f).1 ∧ Zq53 N f = some (((flipV f).1, (flipV f).2, ()), ()) ∧ Zq4 N f = some (((flipV f).1, (flipV f).2, ()), ()) := by
  have hN : 1048577 ≤ N := by omega
  unfold Zq53 Zq4 flipV
  rw [Zq75_eq hl hc hN, Zq13_eq hl hc hN, bind_some', bind_some']
  by_cases h : goodF f
  · have h0 := h.1
    rw [if_pos h, decide_eq_true h, Bool.not_true, br_f, br_f]
    obtain ⟨b1, b2⟩ := space_both (N := N) (m := f.1.toNat) (by omega) (fun b => decide (solves b f.2)) hN
    obtain ⟨_, _, _, s4⟩ := sols_ok (m := f.1.toNat) (by omega) (fun b => decide (solves b f.2))
    refine ⟨s4, ?_, ?_⟩
    · rw [spec_sols_eq hNe h hl hc, bind_some']
      simp only []
      unfold solsL
      rw [b1]
      rfl
    · unfold Zq7
      rw [impl_sols_eq h hl hc hN, bind_some']
      simp only []
      unfold solsL
      rw [b2]
      rfl
  · rw [if_neg h, decide_eq_false h, Bool.not_false, br_t, br_t]
    exact ⟨⟨Nat.zero_le _, by simp, Nat.zero_le _, Nat.zero_le _⟩, rfl, rfl⟩
def bl : Nat → List (List Int)
  | 0 => [[]]
  | m + 1 => (bl m).map (fun b => 0 :: b) ++ (bl m).map (fun b => 1 :: b)
theorem mem_bl : ∀ {b : List Int}, (∀ x ∈ b, x = 0 ∨ x = 1) → b ∈ bl b.length := by
  intro b
  induction b with
  | nil => intro _; simp [bl]
  | cons x b ih =>
    intro h
    have h1 := ih fun y hy => h y (List.mem_cons_of_mem _ hy)
    rw [List.length_cons]
    unfold bl
    rcases h x (List.mem_cons_self ..) with rfl | rfl
    · exact List.mem_append_left _ (List.mem_map.2 ⟨b, h1, rfl⟩)
    · exact List.mem_append_right _ (List.mem_map.2 ⟨b, h1, rfl⟩)
theorem blTab : ((List.range 7).all fun m => (bl m).all fun b => (allB m).any fun c => c == b) = true := by kernel_rfl
theorem mem_allB {b : List Int} (hb : ∀ x ∈ b, x = 0 ∨ x = 1) (h6 : b.length ≤ 6) : b ∈ allB b.length := by
  have h1 := List.all_eq_true.1 (List.all_eq_true.1 blTab b.length (List.mem_range.2 (by omega))) b (mem_bl hb)
  obtain ⟨c, h2, h3⟩ := List.any_eq_true.1 h1
  have := eq_of_beq h3
  rwa [this] at h2
noncomputable def setOf (m a : Nat) : List Int := ((List.range' 0 m).filter fun i : Nat => a.testBit i).map fun i : Nat => (i : Int)
theorem setOf_len (m a : Nat) : (setOf m a).length ≤ m := by
  unfold setOf
  rw [List.length_map]
  exact Nat.le_trans (List.length_filter_le ..) (by simp)
theorem ibit8 {a c : Nat} (ha : a < 256) (hc : c < 8) : ieq (bitop .and .i64 (shrI .i64 (a : Int) (c : Int)) 1) 1 = a.testBit c := by
  have hk : ((List.range 256).all fun a => (List.range 8).all fun c => ieq (bitop .and .i64 (shrI .i64 (a : Int) (c : Int)) 1) 1 == a.testBit c) = true := by kernel_rfl
  exact eq_of_beq (List.all_eq_true.1 (List.all_eq_true.1 hk a (List.mem_range.2 ha)) c (List.mem_range.2 hc))
theorem l2Bits_set {N m a : Nat} (hm : m ≤ 8) (ha : a < 256) (hN : 1048577 ≤ N) : Zq70 N (m : Int) (a : Int) = some ((setOf m a, ()), ()) := by
  unfold Zq70
  refine (loop_iter (L := fun K n o => Zq70_l0 N (fun o => some ((o, ()), ())) K (m : Int) (a : Int) n o) (k := fun o => some ((o, ()), ())) (Inv := fun n o => o.length ≤ n) (step := fun n o => if a.testBit n = true then o ++ [(n : Int)] else o) (fun K n s hn _ => ?_) (fun K n s hn hs => ?_) (fun n s hn h => ?_) (s := []) (m := m) (K := N) (by omega) (Nat.zero_le _)).trans ?_
  · simp only [Zq70_l0, ilt_nf hn, br_f]
  · simp only [Zq70_l0, ilt_n hn, br_t]
    rw [ile_t (by omega), chk_t, ibit8 ha (by omega), wrap_succ (by omega), room_ok (by simp; omega), chk_t, br_ite]
    by_cases h : a.testBit n = true
    · rw [if_pos h, if_pos h]
      rfl
    · rw [if_neg h, if_neg h]
  · by_cases hc : a.testBit n = true
    · rw [if_pos hc]; simp; omega
    · rw [if_neg hc]; omega
  · rw [iter_app, List.nil_append]
    congr 3
    unfold setOf
    congr 1
    refine List.filter_congr fun v _ => ?_
    cases a.testBit v <;> rfl
theorem l1Least_eq {N : Nat} {x y : Int} : Zq64 N x y = some (((if x < y then x else y), ()), ()) := by
  unfold Zq64
  by_cases h : x < y
  · rw [ilt_t h, br_t, if_pos h]
  · rw [ilt_f h, br_f, if_neg h]
def CurOk (code : List Int) (k : Nat) (c : List Int × (Int × Int)) : Prop := c.1 = code ∧ 0 ≤ c.2.1 ∧ c.2.1 ≤ (k : Int)
def codeOk (code : List Int) : Prop := code.length ≤ 1048576 ∧ ∀ x ∈ code, 0 ≤ x ∧ x ≤ 255
theorem cur_mono {code : List Int} {k l : Nat} {c : List Int × (Int × Int)} (h : CurOk code k c) (hl : k ≤ l) : CurOk code l c := ⟨h.1, h.2.1, by have := h.2.2; omega⟩
theorem u8_and (x : Int) : 0 ≤ IntKind.i64.wrap (bitop .and .u64 x 255) ∧ IntKind.i64.wrap (bitop .and .u64 x 255) ≤ 255 := by
  have h : ∃ n : Nat, bitop .and .u64 x 255 = (n : Int) ∧ n ≤ 255 := by
    unfold bitop
    simp only []
    have e : (BitVec.ofInt IntKind.u64.bits x &&& BitVec.ofInt IntKind.u64.bits 255).toNat = (BitVec.ofInt IntKind.u64.bits x).toNat &&& 255 := by
      rw [BitVec.toNat_and]; rfl
    have hle : (BitVec.ofInt IntKind.u64.bits x).toNat &&& 255 ≤ 255 := Nat.and_le_right
    refine ⟨(BitVec.ofInt IntKind.u64.bits x).toNat &&& 255, ?_, hle⟩
    rw [e]
    unfold IntKind.wrap
    simp only [IntKind.signed, IntKind.bits]
    have : (((BitVec.ofInt 64 x).toNat &&& 255 : Nat) : Int) % 2 ^ 64 = (((BitVec.ofInt 64 x).toNat &&& 255 : Nat) : Int) := by
      refine Int.emod_eq_of_lt (by omega) ?_
      have : (BitVec.ofInt 64 x).toNat &&& 255 ≤ 255 := Nat.and_le_right
      omega
    simpa using this
  obtain ⟨n, h1, h2⟩ := h
  rw [h1, wrap_ok (by omega) (by omega)]
  omega
theorem next_ok {N : Nat} {code : List Int} {k : Nat} {c : List Int × (Int × Int)} (hco : codeOk code) (h : CurOk code k c) (hk : k ≤ 1000000000) : ∃ x c', Zq59 N c = some ((x, ()), (c', ())) ∧ CurOk code (k + 1) c' ∧ 0 ≤ x ∧ x ≤ 255 := by
  obtain ⟨cd, at', seed⟩ := c
  obtain ⟨h1, h2, h3⟩ := h
  simp only at h1 h2 h3
  subst h1
  have hw : IntKind.i64.wrap (at' + 1) = at' + 1 := wrap_ok (by omega) (by omega)
  unfold Zq59
  simp only [hw]
  by_cases hlt : at' < (cd.length : Int)
  · obtain ⟨n, rfl⟩ := Int.eq_ofNat_of_zero_le h2
    have hn : n < cd.length := by omega
    have hb := hco.2 _ (List.getElem_mem hn)
    have hrd : rd U8 cd (n : Int) = cd[n] := by
      unfold rd
      rw [Int.toNat_natCast, List.getD_eq_getElem?_getD, List.getElem?_eq_getElem hn]
      rfl
    rw [ilt_len hn, br_t, inb_n hn, chk_t, hrd]
    by_cases hle : (n : Int) + 1 ≤ (cd.length : Int)
    · rw [tLen_n, ile_t hle, br_t]
      refine ⟨_, _, rfl, ⟨rfl, by show (0 : Int) ≤ (n : Int) + 1; omega, by show (n : Int) + 1 ≤ ((k + 1 : Nat) : Int); omega⟩, ?_⟩
      rw [wrap_ok (by omega) (by omega)]
      exact hb
    · omega
  · rw [tLen_n, ilt_f hlt, br_f]
    by_cases hle : at' + 1 ≤ (cd.length : Int)
    · rw [ile_t hle, br_t]
      exact ⟨_, _, rfl, ⟨rfl, by show (0 : Int) ≤ at' + 1; omega, by show at' + 1 ≤ ((k + 1 : Nat) : Int); omega⟩, by omega, by omega⟩
    · rw [ile_f hle, br_f]
      exact ⟨_, _, rfl, ⟨rfl, by show (0 : Int) ≤ at' + 1; omega, by show at' + 1 ≤ ((k + 1 : Nat) : Int); omega⟩, u8_and _⟩
theorem tmod_in {x n : Int} (hx : 0 ≤ x) (hn : 1 ≤ n) : 0 ≤ x.tmod n ∧ x.tmod n < n ∧ x.tmod n ≤ x := by
  obtain ⟨a, rfl⟩ := Int.eq_ofNat_of_zero_le hx
  obtain ⟨b, rfl⟩ := Int.eq_ofNat_of_zero_le (show 0 ≤ n by omega)
  have e : ((a : Int)).tmod (b : Int) = ((a % b : Nat) : Int) := rfl
  rw [e]
  have := Nat.mod_lt a (show 0 < b by omega)
  have := Nat.mod_le a b
  omega
theorem pick_ok {N : Nat} {code : List Int} {k : Nat} {c : List Int × (Int × Int)} (hco : codeOk code) (h : CurOk code k c) (hk : k ≤ 1000000) (n : Int) : ∃ x c', Zq61 N c n = some ((x, ()), (c', ())) ∧ CurOk code (k + 2) c' ∧ 0 ≤ x ∧ x ≤ 65535 ∧ (1 ≤ n → x < n) := by
  unfold Zq61
  by_cases h1 : n ≤ 1
  · rw [ile_t h1, br_t]
    exact ⟨_, _, rfl, cur_mono h (by omega), by omega, by omega, fun h => by omega⟩
  · rw [ile_f h1, br_f]
    obtain ⟨x, c', e1, e2, e3, e4⟩ := next_ok (N := N) hco h (by omega)
    rw [e1, bind_some']
    simp only []
    by_cases h2 : 200 < n
    · rw [ilt_t h2, br_t]
      obtain ⟨y, c2, f1, f2, f3, f4⟩ := next_ok (N := N) hco e2 (by omega)
      rw [f1, bind_some', ine_t (show n ≠ 0 by omega), chk_t]
      simp only []
      rw [wrap_ok (n := x * 256) (by omega) (by omega), wrap_ok (by omega) (by omega)]
      have := tmod_in (x := x * 256 + y) (n := n) (by omega) (by omega)
      exact ⟨_, _, rfl, f2, by omega, by omega, fun _ => by omega⟩
    · rw [ilt_f h2, br_f, ine_t (show n ≠ 0 by omega), chk_t]
      have := tmod_in (x := x) (n := n) (by omega) (by omega)
      exact ⟨_, _, rfl, cur_mono e2 (by omega), by omega, by omega, fun _ => by omega⟩
theorem among_ok {N : Nat} {code : List Int} {k : Nat} {c : List Int × (Int × Int)} (hco : codeOk code) (h : CurOk code k c) (hk : k ≤ 1000000) {l : List Int} (hl : l ≠ []) : ∃ x c', Zq57 N c l = some ((x, ()), (c', ())) ∧ CurOk code (k + 2) c' ∧ x ∈ l := by
  unfold Zq57
  have hp : 0 < l.length := List.length_pos_iff.2 hl
  obtain ⟨x, c', e1, e2, e3, e4, e5⟩ := pick_ok (N := N) hco h hk (tLen l)
  rw [e1, bind_some']
  simp only []
  rw [tLen_n] at e5
  obtain ⟨n, rfl⟩ := Int.eq_ofNat_of_zero_le e3
  have hn : n < l.length := by have := e5 (by omega); omega
  rw [inb_n hn, chk_t, rdI_n hn]
  exact ⟨_, _, rfl, e2, List.getElem_mem hn⟩
theorem one_ok {N : Nat} {code : List Int} {k : Nat} {c : List Int × (Int × Int)} (hco : codeOk code) (h : CurOk code k c) (hk : k ≤ 1000000) (n : Int) : ∃ b c', Zq60 N c n = some ((b, ()), (c', ())) ∧ CurOk code (k + 2) c' := by
  unfold Zq60
  obtain ⟨x, c', e1, e2, _⟩ := pick_ok (N := N) hco h hk n
  rw [e1, bind_some']
  exact ⟨_, _, rfl, e2⟩
theorem cur0 {code : List Int} : CurOk code 0 (code, (0, 0)) := ⟨rfl, Int.le_refl _, by simp⟩
theorem code_ok {x : List Int} (h : ∀ y ∈ x, (Lit.int .u8 y).wf = true) (hl : x.length ≤ 65536) : codeOk x := by
  refine ⟨by omega, fun y hy => ?_⟩
  have := h y hy
  simp [Lit.wf, IntKind.min, IntKind.max, IntKind.signed, IntKind.bits] at this
  omega
def listsOk (n m : Nat) (l : List (List Int)) : Prop := l.length ≤ n ∧ ∀ x ∈ l, x.length ≤ m
theorem f_in {R : Type} {N : Nat} {code : List Int} (hco : codeOk code) (hN : 1048577 ≤ N) {k0 : Int → Int → List Int × (Int × Int) → Int → Int → List Int → List (List Int) → Option R} {x2 x3 x4 o5 o6 : Int} {o8 : List (List Int)} (hx4 : x4 ≤ 10) :
    ∀ (d : Nat) (x5 : Int) (K k : Nat) (c : List Int × (Int × Int)) (o : List Int), x5 + (d : Int) = x4 → d < K → 0 ≤ x5 → CurOk code k c → k + 4 * d ≤ 900000 → o.length + d ≤ 1000 →
      ∃ c' o', Zq58_l0_0 N k0 K x2 x3 x4 x5 c o5 o6 o o8 = k0 x2 x3 c' o5 o6 o' o8 ∧ CurOk code (k + 4 * d) c' ∧ o'.length ≤ o.length + d := by
  intro d
  induction d with
  | zero =>
    intro x5 K k c o hd hK h0 hc hk ho
    obtain ⟨K, rfl⟩ := succ_of hK
    refine ⟨c, o, ?_, hc, by omega⟩
    simp only [Zq58_l0_0, ilt_f (show ¬ x5 < x4 by omega), br_f]
  | succ d ih =>
    intro x5 K k c o hd hK h0 hc hk ho
    obtain ⟨K, rfl⟩ := succ_of hK
    have hw : IntKind.i64.wrap (x5 + 1) = x5 + 1 := wrap_ok (by omega) (by omega)
    simp only [Zq58_l0_0, ilt_t (show x5 < x4 by omega), br_t, hw]
    obtain ⟨x, c1, e1, e2, _⟩ := pick_ok (N := N) hco hc (by omega) o6
    obtain ⟨b, c2, f1, f2⟩ := one_ok (N := N) hco e2 (by omega) 2
    simp only [e1, f1, bind_some', l1Most_eq, l1Put_eq (show o.length ≤ 1048576 by omega) hN]
    have G : ∀ (b : Bool) (x y : Option R), (∃ c' o', x = k0 x2 x3 c' o5 o6 o' o8 ∧ CurOk code (k + 4 * (d + 1)) c' ∧ o'.length ≤ o.length + (d + 1)) → (∃ c' o', y = k0 x2 x3 c' o5 o6 o' o8 ∧ CurOk code (k + 4 * (d + 1)) c' ∧ o'.length ≤ o.length + (d + 1)) → ∃ c' o', br b x y = k0 x2 x3 c' o5 o6 o' o8 ∧ CurOk code (k + 4 * (d + 1)) c' ∧ o'.length ≤ o.length + (d + 1) := by
      intro b x y h1 h2
      cases b
      · exact h2
      · exact h1
    have recl : ∀ o' : List Int, o'.length ≤ o.length + 1 → ∃ c' o'', Zq58_l0_0 N k0 K x2 x3 x4 (x5 + 1) c2 o5 o6 o' o8 = k0 x2 x3 c' o5 o6 o'' o8 ∧ CurOk code (k + 4 * (d + 1)) c' ∧ o''.length ≤ o.length + (d + 1) := by
      intro o' ho'
      obtain ⟨c', o'', q1, q2, q3⟩ := ih (x5 + 1) K (k + 2 + 2) c2 o' (by omega) (by omega) (by omega) f2 (by omega) (by omega)
      exact ⟨c', o'', q1, cur_mono q2 (by omega), by omega⟩
    have put : ∀ v : Int, (putI v o).length ≤ o.length + 1 := fun v => putI_len v o
    repeat' first
      | exact recl _ (put _)
      | exact recl _ (Nat.le_succ _)
      | refine G _ _ _ ?_ ?_
    exact ⟨c, o, rfl, cur_mono hc (by omega), by omega⟩
theorem f_out {R : Type} {N : Nat} {code : List Int} (hco : codeOk code) (hN : 1048577 ≤ N) {k0 : List Int × (Int × Int) → Int → Int → List (List Int) → Option R} {x o1 o2 : Int} :
    ∀ (d K k : Nat) (c : List Int × (Int × Int)) (o : List (List Int)), d < K → CurOk code k c → k + 20 * d ≤ 900000 → listsOk (1000 - d) 5 o → d ≤ 100 →
      ∃ c' o', Zq58_l0 N k0 K x (d : Int) c o1 o2 o = k0 c' o1 o2 o' ∧ CurOk code (k + 20 * d) c' ∧ listsOk (o.length + d) 5 o' := by
  intro d
  induction d with
  | zero =>
    intro K k c o hK hc hk ho hd
    obtain ⟨K, rfl⟩ := succ_of hK
    refine ⟨c, o, ?_, hc, Nat.le_refl _, ho.2⟩
    simp only [Zq58_l0, ilt_f (show ¬ (0 : Int) < ((0 : Nat) : Int) by omega), br_f]
  | succ d ih =>
    intro K k c o hK hc hk ho hd
    obtain ⟨K, rfl⟩ := succ_of hK
    simp only [Zq58_l0, ilt_t (show (0 : Int) < ((d + 1 : Nat) : Int) by omega), br_t]
    obtain ⟨y, c1, e1, e2, e3, e4, e5⟩ := pick_ok (N := N) hco hc (by omega) 3
    have e5 := e5 (by omega)
    have hw : IntKind.i64.wrap (1 + y) = 1 + y := wrap_ok (by omega) (by omega)
    rw [e1, bind_some']
    simp only [hw]
    obtain ⟨n, hn⟩ : ∃ n : Nat, 1 + y = (n : Int) := ⟨(1 + y).toNat, by omega⟩
    have hp : IntKind.i64.wrap (((d + 1 : Nat) : Int) - 1) = (d : Int) := by rw [wrap_ok (by omega) (by omega)]; omega
    obtain ⟨c2, o2', q1, q2, q3⟩ := f_in (R := R) (N := N) hco hN (k0 := fun x2 x3 o4 o5 o6 o7 o8 => (br (ilt 0 (tLen o7))
          ((chk (room o8 [o7])
            (Zq58_l0 N k0 K x2 (IntKind.i64.wrap (x3 - 1)) o4 o5 o6 (tApp o8 [o7]))))
          (((Zq60 N o4 8).bind fun r4 =>
            (br r4.1.1
              ((chk (room o8 [o7])
                (Zq58_l0 N k0 K x2 (IntKind.i64.wrap (x3 - 1)) r4.2.1 o5 o6 (tApp o8 [o7]))))
              (Zq58_l0 N k0 K x2 (IntKind.i64.wrap (x3 - 1)) r4.2.1 o5 o6 o8)))))) (x2 := x) (x3 := ((d + 1 : Nat) : Int)) (x4 := 1 + y) (o5 := o1) (o6 := o2) (o8 := o) (by omega) n 0 N (k + 2) c1 [] (by omega) (by omega) (by omega) e2 (by omega) (by simp; omega)
    rw [q1]
    simp only [hp]
    simp only [List.length_nil, Nat.zero_add] at q3
    have add : ∀ (kk : Nat) (c : List Int × (Int × Int)), CurOk code kk c → kk ≤ k + 18 → ∃ c' o', (chk (room o [o2']) (Zq58_l0 N k0 K x (d : Int) c o1 o2 (tApp o [o2']))) = k0 c' o1 o2 o' ∧ CurOk code (k + 20 * (d + 1)) c' ∧ listsOk (o.length + (d + 1)) 5 o' := by
      intro kk c hc hkk
      have hol := ho.1
      rw [room_ok (by simp; omega), chk_t, tApp_d]
      obtain ⟨c', o', r1, r2, r3, r4⟩ := ih K kk c (o ++ [o2']) (by omega) hc (by omega) ⟨by simp; omega, fun z hz => by
        rcases List.mem_append.1 hz with hz | hz
        · exact ho.2 z hz
        · rw [List.mem_singleton] at hz; subst hz; omega⟩ (by omega)
      exact ⟨c', o', r1, cur_mono r2 (by omega), by simp at r3; omega, r4⟩
    by_cases hz : 0 < tLen o2'
    · rw [ilt_t hz, br_t]
      exact add _ c2 q2 (by omega)
    · rw [ilt_f hz, br_f]
      obtain ⟨b, c3, f1, f2⟩ := one_ok (N := N) hco q2 (by omega) 8
      rw [f1, bind_some']
      simp only []
      cases b with
      | true => rw [br_t]; exact add _ c3 f2 (by omega)
      | false =>
        rw [br_f]
        obtain ⟨c', o', r1, r2, r3, r4⟩ := ih K (k + 2 + 4 * n + 2) c3 o (by omega) f2 (by omega) ⟨by have := ho.1; omega, ho.2⟩ (by omega)
        exact ⟨c', o', r1, cur_mono r2 (by omega), by omega, r4⟩
theorem f_more {R : Type} {N : Nat} {k0 : List Int × (Int × Int) → Int → Int → List (List Int) → Option R} {x : Int} {c : List Int × (Int × Int)} {o5 o6 : Int} (hx : x ≤ 70) : ∀ (d K : Nat) (o : List (List Int)), (o.length : Int) + (d : Int) = max x (o.length : Int) → d < K → listsOk 2000 8 o →
    ∃ o', Zq58_l1 N k0 K x c o5 o6 o = k0 c o5 o6 o' ∧ listsOk (o.length + d) 8 o' := by
  intro d
  induction d with
  | zero =>
    intro K o hd hK ho
    obtain ⟨K, rfl⟩ := succ_of hK
    refine ⟨o, ?_, Nat.le_refl _, ho.2⟩
    simp only [Zq58_l1, tLen_n]
    rw [ilt_f (by omega), br_f]
  | succ d ih =>
    intro K o hd hK ho
    obtain ⟨K, rfl⟩ := succ_of hK
    simp only [Zq58_l1, tLen_n]
    rw [ilt_t (by omega), br_t, room_ok (by simp; omega), chk_t, tApp_d]
    obtain ⟨o', r1, r2, r3⟩ := ih K (o ++ [[(-1), 1]]) (by simp; omega) (by omega) ⟨by simp; omega, fun z hz => by
      rcases List.mem_append.1 hz with hz | hz
      · exact ho.2 z hz
      · rw [List.mem_singleton] at hz; subst hz; simp⟩
    exact ⟨o', r1, by simp at r2; omega, r3⟩
noncomputable def fTail (N : Nat) (o : List Int × (Int × Int)) (o1 o2 : Int) (o3 : List (List Int)) : Option (((Int × List (List Int)) × Unit) × ((List Int × (Int × Int)) × Unit)) :=
  ((Zq61 N o 40).bind fun r3 =>
    (br (ieq r3.1.1 0)
      (((Zq57 N r3.2.1 [(-1), 7, 6]).bind fun r4 =>
        some (((r4.1.1, o3), ()), (r4.2.1, ()))))
      ((br (ieq r3.1.1 1)
        (((Zq57 N (r3.2.1.1, (r3.2.1.2.1, r3.2.1.2.2)) [0, 7, (-7), 1]).bind fun r5 =>
          (chk (room o3 [[r5.1.1]])
            (some (((o2, (tApp o3 [[r5.1.1]])), ()), (r5.2.1, ()))))))
        ((br (ieq r3.1.1 2)
          ((chk (room o3 [[2, 1]])
            (some (((o2, (tApp o3 [[2, 1]])), ()), (r3.2.1, ())))))
          ((br (ieq r3.1.1 3)
            (((Zq61 N r3.2.1 2).bind fun r6 =>
              Zq58_l1 N (fun o4 o5 o6 o7 => some (((o6, o7), ()), (o4, ()))) N (IntKind.i64.wrap (64 + r6.1.1)) r6.2.1 o1 o2 o3))
            (some (((o2, o3), ()), (r3.2.1, ())))))))))))
theorem fTail_ok {N : Nat} {code : List Int} {k : Nat} {c : List Int × (Int × Int)} {o1 o2 : Int} {o3 : List (List Int)} (hco : codeOk code) (hN : 1048577 ≤ N) (h : CurOk code k c) (hk : k ≤ 800000) (ho : listsOk 100 5 o3) :
    ∃ f c', fTail N c o1 o2 o3 = some ((f, ()), (c', ())) ∧ CurOk code (k + 10) c' ∧ listsOk 200 8 f.2 := by
  have h8 : ∀ x ∈ o3, x.length ≤ 8 := fun x hx => by have := ho.2 x hx; omega
  have hol := ho.1
  unfold fTail
  obtain ⟨x, c1, e1, e2, _⟩ := pick_ok (N := N) hco h (by omega) 40
  rw [e1, bind_some']
  simp only [show ((c1.1, (c1.2.1, c1.2.2)) : List Int × (Int × Int)) = c1 from rfl]
  have app : ∀ r : List Int, r.length ≤ 8 → listsOk 200 8 (o3 ++ [r]) := fun r hr => ⟨by simp; omega, fun z hz => by
    rcases List.mem_append.1 hz with hz | hz
    · exact h8 z hz
    · rw [List.mem_singleton] at hz; subst hz; exact hr⟩
  by_cases h0 : x = 0
  · rw [ieq_t h0, br_t]
    obtain ⟨y, c2, f1, f2, _⟩ := among_ok (N := N) hco e2 (by omega) (l := [(-1), 7, 6]) (by simp)
    rw [f1, bind_some']
    exact ⟨_, _, rfl, cur_mono f2 (by omega), ⟨by simp only []; omega, h8⟩⟩
  · rw [ieq_f h0, br_f]
    by_cases h1 : x = 1
    · rw [ieq_t h1, br_t]
      obtain ⟨y, c2, f1, f2, _⟩ := among_ok (N := N) hco e2 (by omega) (l := [0, 7, (-7), 1]) (by simp)
      rw [f1, bind_some']
      simp only []
      rw [room_ok (by simp; omega), chk_t, tApp_d]
      exact ⟨_, _, rfl, cur_mono f2 (by omega), app _ (by simp)⟩
    · rw [ieq_f h1, br_f]
      by_cases h2 : x = 2
      · rw [ieq_t h2, br_t, room_ok (by simp; omega), chk_t, tApp_d]
        exact ⟨_, _, rfl, cur_mono e2 (by omega), app _ (by simp)⟩
      · rw [ieq_f h2, br_f]
        by_cases h3 : x = 3
        · rw [ieq_t h3, br_t]
          obtain ⟨y, c2, f1, f2, f3, _, f5⟩ := pick_ok (N := N) hco e2 (by omega) 2
          have f5 := f5 (by omega)
          rw [f1, bind_some']
          simp only []
          rw [wrap_ok (by omega) (by omega)]
          obtain ⟨d, hd⟩ : ∃ d : Nat, (o3.length : Int) + (d : Int) = max (64 + y) (o3.length : Int) := ⟨(max (64 + y) (o3.length : Int) - o3.length).toNat, by omega⟩
          obtain ⟨o', r1, r2, r3⟩ := f_more (N := N) (k0 := fun o4 o5 o6 o7 => some (((o6, o7), ()), (o4, ()))) (x := 64 + y) (c := c2) (o5 := o1) (o6 := o2) (by omega) d N o3 hd (by omega) ⟨by omega, h8⟩
          exact ⟨_, _, r1, cur_mono f2 (by omega), ⟨by simp only []; omega, r3⟩⟩
        · rw [ieq_f h3, br_f]
          exact ⟨_, _, rfl, cur_mono e2 (by omega), ⟨by simp only []; omega, h8⟩⟩
theorem formula_ok {N : Nat} {code : List Int} {k : Nat} {c : List Int × (Int × Int)} (hco : codeOk code) (hN : 1048577 ≤ N) (h : CurOk code k c) (hk : k ≤ 90000) : ∃ f c', Zq58 N c = some ((f, ()), (c', ())) ∧ CurOk code (k + 200) c' ∧ listsOk 200 8 f.2 := by
  unfold Zq58
  obtain ⟨n, c1, a1, a2, a3⟩ := among_ok (N := N) hco h (by omega) (l := [4, 3, 5, 2, 6, 1, 0]) (by simp)
  rw [a1, bind_some']
  simp only []
  obtain ⟨y, c2, b1, b2, _⟩ := pick_ok (N := N) hco a2 (by omega) 5
  rw [b1, bind_some']
  simp only []
  have rest : ∀ x : Int, ∃ f c', ((Zq57 N c2 [2, 3, 4, 6, 1, 0]).bind fun r2 => Zq58_l0 N (fun o o1 o2 o3 => fTail N o o1 o2 o3) N x r2.1.1 r2.2.1 0 n []) = some ((f, ()), (c', ())) ∧ CurOk code (k + 200) c' ∧ listsOk 200 8 f.2 := by
    intro x
    obtain ⟨z, c3, d1, d2, d3⟩ := among_ok (N := N) hco b2 (by omega) (l := [2, 3, 4, 6, 1, 0]) (by simp)
    rw [d1, bind_some']
    simp only []
    have hz : 0 ≤ z ∧ z ≤ 6 := by simp at d3; omega
    obtain ⟨m, rfl⟩ := Int.eq_ofNat_of_zero_le hz.1
    obtain ⟨c4, o', e1, e2, e3⟩ := f_out (N := N) hco hN (k0 := fun o o1 o2 o3 => fTail N o o1 o2 o3) (x := x) (o1 := 0) (o2 := n) m N _ c3 [] (by omega) d2 (by omega) ⟨by simp, by simp⟩ (by omega)
    obtain ⟨f, c', g1, g2, g3⟩ := fTail_ok (N := N) (o1 := 0) (o2 := n) hco hN e2 (by omega) (show listsOk 100 5 o' from ⟨by have := e3.1; simp at this; omega, e3.2⟩)
    exact ⟨f, c', e1.trans g1, cur_mono g2 (by omega), g3⟩
  by_cases h4 : y = 4
  · rw [ieq_t h4, br_t]
    exact rest 3
  · rw [ieq_f h4, br_f]
    exact rest y
theorem rd_ext {a b : List Int} (h : a.length = b.length) (he : ∀ i : Nat, i < a.length → rdI a (i : Int) = rdI b (i : Int)) : a = b := by
  refine List.ext_getElem h fun i h1 h2 => ?_
  have := he i h1
  rwa [rdI_n h1, rdI_n h2] at this
noncomputable def mid (a b x : List Int) : List Int := (List.range a.length).map fun i : Nat => if rdI a (i : Int) = rdI b (i : Int) then rdI a (i : Int) else rdI x (i : Int)
theorem mid_len (a b x : List Int) : (mid a b x).length = a.length := by simp [mid]
theorem mid_rd {a b x : List Int} {i : Nat} (hi : i < a.length) : rdI (mid a b x) (i : Int) = if rdI a (i : Int) = rdI b (i : Int) then rdI a (i : Int) else rdI x (i : Int) := by
  rw [rdI_n (by rw [mid_len]; exact hi)]
  simp [mid]
theorem mid_solves {a b x : List Int} {m : Nat} {cs : List (List Int)} (ha : a.length = m) (hb : b.length = m) (hx : x.length = m) (ba : ∀ z ∈ a, z = 0 ∨ z = 1) (bb : ∀ z ∈ b, z = 0 ∨ z = 1) (hl : litsOk (m : Int) cs) (h2 : ∀ c ∈ cs, c.length ≤ 2)
    (sa : solves a cs) (sb : solves b cs) (sx : solves x cs) : solves (mid a b x) cs := by
  have bit : ∀ {l : List Int} {i : Nat}, (∀ z ∈ l, z = 0 ∨ z = 1) → i < l.length → rdI l (i : Int) = 0 ∨ rdI l (i : Int) = 1 := fun h hi => by rw [rdI_n hi]; exact h _ (List.getElem_mem hi)
  have key : ∀ l : Int, l ≠ 0 ∧ -(m : Int) ≤ l ∧ l ≤ (m : Int) → meets (mid a b x) l = if meets a l = meets b l then meets a l else meets x l := by
    intro l hl
    unfold meets
    by_cases h0 : 0 < l
    · obtain ⟨i, hi⟩ : ∃ i : Nat, l - 1 = (i : Int) := ⟨(l - 1).toNat, by omega⟩
      rw [if_pos h0, if_pos h0, if_pos h0, if_pos h0, hi, mid_rd (by omega)]
      have q1 := bit ba (show i < a.length by omega)
      have q2 := bit bb (show i < b.length by omega)
      rcases q1 with q1 | q1 <;> rcases q2 with q2 | q2 <;> simp [q1, q2]
    · obtain ⟨i, hi⟩ : ∃ i : Nat, -1 - l = (i : Int) := ⟨(-1 - l).toNat, by omega⟩
      rw [if_neg h0, if_neg h0, if_neg h0, if_neg h0, hi, mid_rd (by omega)]
      have q1 := bit ba (show i < a.length by omega)
      have q2 := bit bb (show i < b.length by omega)
      rcases q1 with q1 | q1 <;> rcases q2 with q2 | q2 <;> simp [q1, q2]
  intro c hc
  have s1 := sa c hc
  have s2 := sb c hc
  have s3 := sx c hc
  have hlen := h2 c hc
  have hlit := hl c hc
  match c, s1, s2, s3, hlen, hlit with
  | [], s1, _, _, _, _ => simp at s1
  | [l], s1, s2, s3, _, hlit =>
    simp only [List.any_cons, List.any_nil, Bool.or_false] at s1 s2 s3 ⊢
    rw [key l (hlit l (by simp)), s1, s2, if_pos rfl]
  | [l, l'], s1, s2, s3, _, hlit =>
    simp only [List.any_cons, List.any_nil, Bool.or_false] at s1 s2 s3 ⊢
    rw [key l (hlit l (by simp)), key l' (hlit l' (by simp))]
    revert s1 s2 s3
    cases meets a l <;> cases meets a l' <;> cases meets b l <;> cases meets b l' <;> cases meets x l <;> cases meets x l' <;> simp
  | _ :: _ :: _ :: _, _, _, _, hlen, _ => simp at hlen
theorem rInts_l0_eq {R : Type} (N : Nat) (k0 : Bool → Option R) (k1 : Unit → Option R) (a b : List Int) (hx : a.length ≤ 1099511627776) (hl : a.length = b.length) : ∀ (d n : Nat) (K : Nat), n + d = a.length → d < K →
    Zq33_l0 N k0 k1 K a b n = if a.drop n = b.drop n then k1 () else k0 false := by
  intro d
  induction d with
  | zero =>
    intro n K hd hK
    obtain ⟨k, rfl⟩ := succ_of hK
    have hn : ¬ n < a.length := by omega
    simp only [Zq33_l0, ilt_lenf hn, br_f]
    rw [if_pos]
    rw [List.drop_of_length_le (by omega), List.drop_of_length_le (by omega)]
  | succ d ih =>
    intro n K hd hK
    obtain ⟨k, rfl⟩ := succ_of hK
    have hn : n < a.length := by omega
    have hnb : n < b.length := by omega
    simp only [Zq33_l0, ilt_len hn, inb_n hn, inb_n hnb, br_t, chk_t]
    rw [wrap_succ (by omega), rdI_n hn, rdI_n hnb, ih (n + 1) k (by omega) (by omega), drop_cons hn, drop_cons hnb]
    by_cases he : a[n] = b[n]
    · rw [ine_f he, br_f, he]
      simp only [List.cons.injEq, true_and]
    · rw [ine_t he, br_t, if_neg]
      intro h
      injection h with h _
      exact he h
theorem rInts_eq {N : Nat} {a b : List Int} (hx : a.length ≤ 1099511627776) (hN : a.length < N) : Zq33 N a b = some ((decide (a = b), ()), ()) := by
  unfold Zq33
  simp only [tLen_n]
  by_cases hl : a.length = b.length
  · rw [ine_f (by omega), br_f]
    have := rInts_l0_eq N (fun x => some ((x, ()), ())) (fun _ => some ((true, ()), ())) a b hx hl a.length 0 N (by omega) (by omega)
    simp only [Int.natCast_zero, List.drop_zero] at this
    rw [this]
    by_cases h : a = b <;> simp [h]
  · rw [ine_t (by omega), br_t]
    have : a ≠ b := fun h => hl (by rw [h])
    simp [this]
theorem rTable_l0_eq {R : Type} (N : Nat) (k0 : Bool → Option R) (k1 : Unit → Option R) (a b : List (List Int)) (hx : a.length ≤ 1099511627776) (hxs : ∀ x ∈ a, x.length ≤ 1048576) (hN : 1048577 ≤ N) (hl : a.length = b.length) : ∀ (d n : Nat) (K : Nat), n + d = a.length → d < K →
    Zq36_l0 N k0 k1 K a b n = if a.drop n = b.drop n then k1 () else k0 false := by
  intro d
  induction d with
  | zero =>
    intro n K hd hK
    obtain ⟨k, rfl⟩ := succ_of hK
    have hn : ¬ n < a.length := by omega
    simp only [Zq36_l0, ilt_lenf hn, br_f]
    rw [if_pos]
    rw [List.drop_of_length_le (by omega), List.drop_of_length_le (by omega)]
  | succ d ih =>
    intro n K hd hK
    obtain ⟨k, rfl⟩ := succ_of hK
    have hn : n < a.length := by omega
    have hnb : n < b.length := by omega
    simp only [Zq36_l0, ilt_len hn, inb_n hn, inb_n hnb, br_t, chk_t]
    have ha := hxs _ (List.getElem_mem hn)
    rw [wrap_succ (by omega), rdL_n hn, rdL_n hnb, rInts_eq (by omega) (by omega), bind_some', ih (n + 1) k (by omega) (by omega), drop_cons hn, drop_cons hnb, br_ite]
    by_cases he : a[n] = b[n]
    · rw [he, if_neg (by simp)]
      simp only [List.cons.injEq, true_and]
    · rw [if_pos (by simp [he]), if_neg]
      intro h
      injection h with h _
      exact he h
theorem rTable_eq {N : Nat} {a b : List (List Int)} (hx : a.length ≤ 1048576) (hxs : ∀ x ∈ a, x.length ≤ 1048576) (hN : 1048577 ≤ N) : Zq36 N a b = some ((decide (a = b), ()), ()) := by
  unfold Zq36
  simp only [tLen_n]
  by_cases hl : a.length = b.length
  · rw [ine_f (by omega), br_f]
    have := rTable_l0_eq N (fun x => some ((x, ()), ())) (fun _ => some ((true, ()), ())) a b (by omega) hxs hN hl a.length 0 N (by omega) (by omega)
    simp only [Int.natCast_zero, List.drop_zero] at this
    rw [this]
    by_cases h : a = b <;> simp [h]
  · rw [ine_t (by omega), br_t]
    have : a ≠ b := fun h => hl (by rw [h])
    simp [this]
theorem rPairs_self {N : Nat} {a : List (Int × Int)} (hx : a.length ≤ 1048576) (hN : 1048577 ≤ N) : Zq34 N a a = some ((true, ()), ()) := by
  unfold Zq34
  rw [ine_f rfl, br_f]
  have go : ∀ (d n K : Nat), n + d = a.length → d < K → Zq34_l0 N (fun x => some ((x, ()), ())) (fun (_ : Unit) => some ((true, ()), ())) K a a (n : Int) = some ((true, ()), ()) := by
    intro d
    induction d with
    | zero =>
      intro n K hd hK
      obtain ⟨K, rfl⟩ := succ_of hK
      simp only [Zq34_l0, ilt_lenf (show ¬ n < a.length by omega), br_f]
    | succ d ih =>
      intro n K hd hK
      obtain ⟨K, rfl⟩ := succ_of hK
      have hn : n < a.length := by omega
      simp only [Zq34_l0, ilt_len hn, br_t, inb_n hn, chk_t]
      rw [ieq_t rfl, ieq_t rfl, wrap_succ (by omega)]
      simp only [Bool.and_self, Bool.not_true, br_f]
      exact ih (n + 1) K (by omega) (by omega)
  exact go a.length 0 N (by omega) (by omega)
theorem rSpace_self {N : Nat} {x : List (List Int) × List (Int × Int)} (h : okSp x) (hN : 1048577 ≤ N) : Zq35 N x x = some ((true, ()), ()) := by
  obtain ⟨h1, h2, h3, h4⟩ := h
  unfold Zq35
  rw [rTable_eq h1 h2 hN, bind_some', decide_eq_true rfl, br_t, rPairs_self h3 hN, bind_some']
noncomputable def classV (f : Int × List (List Int)) : (Bool × Bool × Bool) × Bool := if goodF f then (f.2.foldl classF (true, true, true), true) else ((false, false, false), false)
theorem fold_two : ∀ (cs : List (List Int)) (t : Bool × Bool × Bool), (cs.foldl classF t).1 = true → t.1 = true ∧ ∀ c ∈ cs, c.length ≤ 2 := by
  intro cs
  induction cs with
  | nil => intro t h; exact ⟨h, by simp⟩
  | cons c cs ih =>
    intro t h
    obtain ⟨h1, h2⟩ := ih _ h
    simp only [classF, Bool.and_eq_true, decide_eq_true_eq] at h1
    exact ⟨h1.1, fun x hx => by
      rcases List.mem_cons.1 hx with rfl | hx
      · omega
      · exact h2 x hx⟩
theorem mem_sols {f : Int × List (List Int)} (hg : goodF f) {x : List Int} : x ∈ solsL f ↔ (x.length = f.1.toNat ∧ (∀ z ∈ x, z = 0 ∨ z = 1)) ∧ solves x f.2 := by
  unfold solsL
  rw [List.mem_filter, decide_eq_true_eq]
  constructor
  · rintro ⟨h1, h2⟩
    exact ⟨⟨allB_row h1, allB_bits h1⟩, h2⟩
  · rintro ⟨⟨h1, h2⟩, h3⟩
    have := mem_allB h2 (by have := hg.1; omega)
    rw [h1] at this
    exact ⟨this, h3⟩
noncomputable def met (c : Int) (a l : List Int) : List Int := (List.range a.length).map fun i : Nat => if rdI a (i : Int) = c ∧ rdI l (i : Int) = c then c else 1 - c
theorem met_len (c : Int) (a l : List Int) : (met c a l).length = a.length := by simp [met]
theorem met_rd {c : Int} {a l : List Int} {i : Nat} (hi : i < a.length) : rdI (met c a l) (i : Int) = if rdI a (i : Int) = c ∧ rdI l (i : Int) = c then c else 1 - c := by
  rw [rdI_n (by rw [met_len]; exact hi)]
  simp [met]
def litC (c : Int) (x : Int) : Bool := if c = 1 then decide (0 < x) else decide (x < 0)
def hornC (c : Int) (cs : List (List Int)) : Prop := ∀ cl ∈ cs, (cl.filter (litC c)).length ≤ 1
theorem meets_c {c : Int} (hc : c = 0 ∨ c = 1) {m : Nat} {a : List Int} (ha : a.length = m) (ba : ∀ z ∈ a, z = 0 ∨ z = 1) {x : Int} (hx : x ≠ 0 ∧ -(m : Int) ≤ x ∧ x ≤ (m : Int)) :
    ∃ i : Nat, i < m ∧ (∀ b : List Int, b.length = m → (∀ z ∈ b, z = 0 ∨ z = 1) → (meets b x = true ↔ if litC c x = true then rdI b (i : Int) = c else rdI b (i : Int) = 1 - c)) := by
  by_cases h0 : 0 < x
  · refine ⟨(x - 1).toNat, by omega, fun b hb bb => ?_⟩
    unfold meets
    rw [if_pos h0, show x - 1 = (((x - 1).toNat : Nat) : Int) by omega, decide_eq_true_eq, Int.toNat_natCast]
    rcases hc with rfl | rfl
    · have e : litC 0 x = false := by unfold litC; rw [if_neg (by decide)]; exact decide_eq_false (by omega)
      rw [e, if_neg (by simp)]
      omega
    · have e : litC 1 x = true := by unfold litC; rw [if_pos rfl]; exact decide_eq_true h0
      rw [e, if_pos rfl]
  · refine ⟨(-1 - x).toNat, by omega, fun b hb bb => ?_⟩
    unfold meets
    rw [if_neg h0, show -1 - x = (((-1 - x).toNat : Nat) : Int) by omega, decide_eq_true_eq, Int.toNat_natCast]
    rcases hc with rfl | rfl
    · have e : litC 0 x = true := by unfold litC; rw [if_neg (by decide)]; exact decide_eq_true (by omega)
      rw [e, if_pos rfl]
    · have e : litC 1 x = false := by unfold litC; rw [if_pos rfl]; exact decide_eq_false h0
      rw [e, if_neg (by simp)]
      omega
theorem met_bits {c : Int} (hc : c = 0 ∨ c = 1) (a l : List Int) : ∀ z ∈ met c a l, z = 0 ∨ z = 1 := fun z hz => by
  obtain ⟨i, _, rfl⟩ := List.mem_map.1 hz
  split <;> omega
theorem met_solves {c : Int} (hc : c = 0 ∨ c = 1) {m : Nat} {a l : List Int} {cs : List (List Int)} (ha : a.length = m) (hl' : l.length = m) (ba : ∀ z ∈ a, z = 0 ∨ z = 1) (bl : ∀ z ∈ l, z = 0 ∨ z = 1) (hl : litsOk (m : Int) cs) (hh : hornC c cs) (sa : solves a cs) (sl : solves l cs) : solves (met c a l) cs := by
  intro cl hcl
  have s1 := List.any_eq_true.1 (sa cl hcl)
  have s2 := List.any_eq_true.1 (sl cl hcl)
  obtain ⟨p, p1, p2⟩ := s1
  obtain ⟨q, q1, q2⟩ := s2
  have hml : (met c a l).length = m := by rw [met_len, ha]
  obtain ⟨i, i1, i2⟩ := meets_c hc ha ba (hl cl hcl p p1)
  obtain ⟨j, j1, j2⟩ := meets_c hc ha ba (hl cl hcl q q1)
  have ip := (i2 a ha ba).1 p2
  have jq := (j2 l hl' bl).1 q2
  rw [List.any_eq_true]
  by_cases hp : litC c p = true
  · by_cases hq : litC c q = true
    · have e : p = q := by
        have m1 : p ∈ cl.filter (litC c) := List.mem_filter.2 ⟨p1, hp⟩
        have m2 : q ∈ cl.filter (litC c) := List.mem_filter.2 ⟨q1, hq⟩
        have hlen := hh cl hcl
        match hf : cl.filter (litC c), hlen with
        | [], _ => rw [hf] at m1; cases m1
        | [z], _ =>
          rw [hf, List.mem_singleton] at m1 m2
          rw [m1, m2]
        | _ :: _ :: _, hlen => simp at hlen
      subst e
      have jl := (i2 l hl' bl).1 q2
      rw [if_pos hp] at ip jl
      refine ⟨p, p1, (i2 _ hml (met_bits hc a l)).2 ?_⟩
      rw [if_pos hp, met_rd (by omega), if_pos ⟨ip, jl⟩]
    · rw [if_neg hq] at jq
      refine ⟨q, q1, (j2 _ hml (met_bits hc a l)).2 ?_⟩
      rw [if_neg hq, met_rd (by omega), if_neg (by omega)]
  · rw [if_neg hp] at ip
    refine ⟨p, p1, (i2 _ hml (met_bits hc a l)).2 ?_⟩
    rw [if_neg hp, met_rd (by omega), if_neg (by omega)]
theorem cnt_pos (c : List Int) : cntI c = ((c.filter (litC 1)).length : Int) := by
  have key : ∀ (c : List Int) (u : Int), c.foldl (fun u x => if 0 < x then u + 1 else u) u = u + ((c.filter (litC 1)).length : Int) := by
    intro c
    induction c with
    | nil => intro u; simp
    | cons x c ih =>
      intro u
      rw [List.foldl_cons, ih]
      by_cases h : 0 < x
      · rw [if_pos h, List.filter_cons_of_pos (by unfold litC; rw [if_pos rfl]; exact decide_eq_true h), List.length_cons]
        omega
      · rw [if_neg h, List.filter_cons_of_neg (by unfold litC; rw [if_pos rfl]; simpa using h)]
  have := key c 0
  unfold cntI
  omega
theorem cnt_neg (c : List Int) : ((c.filter (litC 0)).length : Int) ≤ (c.length : Int) - cntI c := by
  rw [cnt_pos]
  induction c with
  | nil => simp
  | cons x c ih =>
    by_cases h : 0 < x
    · rw [List.filter_cons_of_pos (p := litC 1) (by unfold litC; rw [if_pos rfl]; exact decide_eq_true h), List.filter_cons_of_neg (p := litC 0) (by unfold litC; rw [if_neg (by decide)]; simp; omega), List.length_cons, List.length_cons]
      omega
    · rw [List.filter_cons_of_neg (p := litC 1) (by unfold litC; rw [if_pos rfl]; simpa using h)]
      have : ((x :: c).filter (litC 0)).length ≤ (c.filter (litC 0)).length + 1 := by
        rw [List.filter_cons]
        split <;> simp
      rw [List.length_cons]
      omega
theorem fold_horn : ∀ (cs : List (List Int)) (t : Bool × Bool × Bool), ((cs.foldl classF t).2.1 = true → t.2.1 = true ∧ hornC 1 cs) ∧ ((cs.foldl classF t).2.2 = true → t.2.2 = true ∧ hornC 0 cs) := by
  intro cs
  induction cs with
  | nil => intro t; exact ⟨fun h => ⟨h, fun _ q => by cases q⟩, fun h => ⟨h, fun _ q => by cases q⟩⟩
  | cons c cs ih =>
    intro t
    obtain ⟨i1, i2⟩ := ih (classF t c)
    constructor
    · intro h
      obtain ⟨h1, h2⟩ := i1 h
      simp only [classF, Bool.and_eq_true, decide_eq_true_eq] at h1
      refine ⟨h1.1, fun x hx => ?_⟩
      rcases List.mem_cons.1 hx with rfl | hx
      · have := cnt_pos x
        omega
      · exact h2 x hx
    · intro h
      obtain ⟨h1, h2⟩ := i2 h
      simp only [classF, Bool.and_eq_true, decide_eq_true_eq] at h1
      refine ⟨h1.1, fun x hx => ?_⟩
      rcases List.mem_cons.1 hx with rfl | hx
      · have := cnt_neg x
        omega
      · exact h2 x hx
theorem Class_one {N : Nat} {f : Int × List (List Int)} (hl : f.2.length ≤ 1048576) (hc : ∀ c ∈ f.2, c.length ≤ 1048576) (hN : 1048577 ≤ N) :
    Zq2 N f = some (((classV f).1.1, (classV f).1.2.1, (classV f).1.2.2, (classV f).2, ()), ()) := by
  unfold Zq2 classV
  simp only [show ((f.1, f.2) : Int × List (List Int)) = f from rfl]
  rw [Zq13_eq hl hc hN, bind_some']
  by_cases hg : goodF f
  · rw [decide_eq_true hg, if_pos hg]
    simp only [Bool.not_true, br_f]
    rw [tLen_n, Zq2_l0_eq hl hc hN]
  · rw [decide_eq_false hg, if_neg hg]
    rfl
theorem xor64 {a b : Nat} (ha : a < 256) (hb : b < 256) : bitop .xor .u64 (a : Int) (b : Int) = ((a ^^^ b : Nat) : Int) := by
  have e1 := ofInt64 (n := a) (by omega)
  have e2 := ofInt64 (n := b) (by omega)
  have h1 : a ^^^ b < 256 := Nat.xor_lt_two_pow (n := 8) ha hb
  show IntKind.u64.wrap (((BitVec.ofInt 64 (a : Int) ^^^ BitVec.ofInt 64 (b : Int)).toNat : Nat) : Int) = _
  rw [BitVec.toNat_xor, e1, e2]
  exact wrap64 (by omega)
theorem rIndex_in {N : Nat} {L : List (List Int)} {x : List Int} (hl : L.length ≤ 1048576) (hL : ∀ s ∈ L, s.length ≤ 1048576) (hN : 1048577 ≤ N) (h : x ∈ L) : ∃ i : Int, 0 ≤ i ∧ Zq32 N L x = some ((i, ()), ()) := by
  unfold Zq32
  have go : ∀ (d n K : Nat), n + d = L.length → d < K → x ∈ L.drop n → ∃ i : Int, 0 ≤ i ∧ Zq32_l0 N (fun x1 => some ((x1, ()), ())) (fun (_ : Unit) => some (((-1), ()), ())) K L x (n : Int) = some ((i, ()), ()) := by
    intro d
    induction d with
    | zero =>
      intro n K hd hK hm
      rw [List.drop_of_length_le (by omega)] at hm
      cases hm
    | succ d ih =>
      intro n K hd hK hm
      obtain ⟨K, rfl⟩ := succ_of hK
      have hn : n < L.length := by omega
      have hs := hL _ (List.getElem_mem hn)
      simp only [Zq32_l0, ilt_len hn, br_t, inb_n hn, chk_t]
      rw [rdL_n hn, rInts_eq (by omega) (by omega), bind_some']
      by_cases e : L[n] = x
      · rw [decide_eq_true e, br_t]
        exact ⟨(n : Int), by omega, rfl⟩
      · rw [decide_eq_false e, br_f, wrap_succ (by omega)]
        refine ih (n + 1) K (by omega) (by omega) ?_
        rw [List.drop_eq_getElem_cons hn] at hm
        rcases List.mem_cons.1 hm with q | q
        · exact absurd q.symm e
        · exact q
  have := go L.length 0 N (by omega) (by omega) (by simpa using h)
  simpa using this
def bz (b : Bool) : Int := cond b 1 0
theorem bitAt_z (m x v : Nat) : bitAt m x v = bz (x.testBit (m - 1 - v)) := by
  unfold bitAt bz
  rw [← Nat.toNat_testBit]
  cases x.testBit (m - 1 - v) <;> rfl
theorem row_len (m x : Nat) : (rowB m x).length = m := by simp [rowB]
theorem rd_row {m x v : Nat} (h : v < m) : rdI (rowB m x) (v : Int) = bz (x.testBit (m - 1 - v)) := by
  rw [rdI_n (by rw [row_len]; exact h), ← bitAt_z]
  simp [rowB]
def clN (op : Int) (x y z : Nat) : Nat := if op = 1 then (x &&& y ||| x &&& z) ||| y &&& z else if op = 2 then x &&& y else if op = 3 then x ||| y else (x ^^^ y) ^^^ z
theorem maj_z : ∀ a b c : Bool, IntKind.i64.wrap ((IntKind.i64.wrap (IntKind.i64.wrap (bz a + bz b) + bz c)).tdiv 2) = bz ((a && b || a && c) || b && c)
  | false, false, false => by kernel_rfl
  | false, false, true => by kernel_rfl
  | false, true, false => by kernel_rfl
  | false, true, true => by kernel_rfl
  | true, false, false => by kernel_rfl
  | true, false, true => by kernel_rfl
  | true, true, false => by kernel_rfl
  | true, true, true => by kernel_rfl
theorem sum_z : ∀ a b c : Bool, (IntKind.i64.wrap (IntKind.i64.wrap (bz a + bz b) + bz c)).tmod 2 = bz ((a ^^ b) ^^ c)
  | false, false, false => by kernel_rfl
  | false, false, true => by kernel_rfl
  | false, true, false => by kernel_rfl
  | false, true, true => by kernel_rfl
  | true, false, false => by kernel_rfl
  | true, false, true => by kernel_rfl
  | true, true, false => by kernel_rfl
  | true, true, true => by kernel_rfl
theorem and_z : ∀ a b : Bool, IntKind.i64.wrap (bz a * bz b) = bz (a && b)
  | false, false => by kernel_rfl
  | false, true => by kernel_rfl
  | true, false => by kernel_rfl
  | true, true => by kernel_rfl
theorem most_z : ∀ a b : Bool, (if bz b < bz a then bz a else bz b) = bz (a || b)
  | false, false => by decide
  | false, true => by decide
  | true, false => by decide
  | true, true => by decide
theorem l6Result_eq {N m x y z : Nat} {op : Int} (hm : m ≤ 6) (hop : 1 ≤ op ∧ op ≤ 4) (hN : 1048577 ≤ N) : Zq79 N op (rowB m x) (rowB m y) (rowB m z) = some ((rowB m (clN op x y z), ()), ()) := by
  unfold Zq79
  have go : ∀ (d v K : Nat) (o : List Int), v + d = m → d < K → o = (List.range v).map (bitAt m (clN op x y z)) → Zq79_l0 N (fun o => some ((o, ()), ())) K op (rowB m x) (rowB m y) (rowB m z) (v : Int) o = some ((rowB m (clN op x y z), ()), ()) := by
    intro d
    induction d with
    | zero =>
      intro v K o hd hK ho
      obtain ⟨K, rfl⟩ := succ_of hK
      simp only [Zq79_l0]
      rw [ilt_lenf (by rw [row_len]; omega), br_f, ho, show v = m by omega]
      rfl
    | succ d ih =>
      intro v K o hd hK ho
      obtain ⟨K, rfl⟩ := succ_of hK
      have hv : v < m := by omega
      have hl : o.length = v := by rw [ho]; simp
      have nx : ∀ e, e = bitAt m (clN op x y z) v → Zq79_l0 N (fun o => some ((o, ()), ())) K op (rowB m x) (rowB m y) (rowB m z) (((v + 1 : Nat)) : Int) (tApp o [e]) = some ((rowB m (clN op x y z), ()), ()) := fun e he => by
        refine ih (v + 1) K _ (by omega) (by omega) ?_
        rw [tApp_d, ho, he, List.range_succ, List.map_append]
        rfl
      have hr : ∀ e : Int, room o [e] = true := fun e => room_ok (by simp; omega)
      simp only [Zq79_l0]
      rw [ilt_len (by rw [row_len]; exact hv), br_t, inb_n (by rw [row_len]; exact hv), inb_n (by rw [row_len]; exact hv), inb_n (by rw [row_len]; exact hv)]
      have hws : IntKind.i64.wrap ((v : Int) + 1) = ((v + 1 : Nat) : Int) := wrap_succ (by omega)
      simp only [chk_t, rd_row hv, hr, hws, l1Most_eq, bind_some']
      rw [bitAt_z] at nx
      by_cases h1 : op = 1
      · rw [ieq_t h1, br_t, maj_z]
        refine nx _ ?_
        subst h1
        simp [clN]
      · rw [ieq_f h1, br_f]
        by_cases h2 : op = 2
        · rw [ieq_t h2, br_t, and_z]
          refine nx _ ?_
          subst h2
          simp [clN]
        · rw [ieq_f h2, br_f]
          by_cases h3 : op = 3
          · rw [ieq_t h3, br_t, most_z]
            refine nx _ ?_
            subst h3
            simp [clN]
          · rw [ieq_f h3, br_f, sum_z]
            refine nx _ ?_
            unfold clN
            rw [if_neg h1, if_neg h2, if_neg h3, Nat.testBit_xor, Nat.testBit_xor]
  exact go m 0 N [] (by omega) (by omega) rfl
theorem clN_lt {op : Int} {m x y z : Nat} (hx : x < 2 ^ m) (hy : y < 2 ^ m) (hz : z < 2 ^ m) : clN op x y z < 2 ^ m := by
  unfold clN
  split
  · exact Nat.or_lt_two_pow (Nat.or_lt_two_pow (Nat.and_lt_two_pow _ hy) (Nat.and_lt_two_pow _ hz)) (Nat.and_lt_two_pow _ hz)
  · split
    · exact Nat.and_lt_two_pow _ hy
    · split
      · exact Nat.or_lt_two_pow hx hy
      · exact Nat.xor_lt_two_pow (Nat.xor_lt_two_pow hx hy) hz
noncomputable def solsN (m : Nat) (cs : List (List Int)) : List Nat := (List.range (2 ^ m)).filter fun n => decide (solves (rowB m n) cs)
def castL (S : List Nat) : List Int := S.map fun n : Nat => (n : Int)
theorem solsL_rows (m : Nat) (cs : List (List Int)) : solsL ((m : Int), cs) = (solsN m cs).map (rowB m) := by
  unfold solsL solsN
  simp only [Int.toNat_natCast]
  rw [allB_rows, List.filter_map]
  rfl
theorem mem_solsN {m n : Nat} {cs : List (List Int)} : n ∈ solsN m cs ↔ n < 2 ^ m ∧ solves (rowB m n) cs := by
  unfold solsN
  rw [List.mem_filter, List.mem_range, decide_eq_true_eq]
theorem asBitsTab : ((List.range 7).all fun m => (List.range (2 ^ m)).all fun n => match Zq15 8 (rowB m n) with
  | some ((z, ()), ()) => z == (n : Int)
  | none => false) = true := by kernel_rfl
theorem asBits_more {N : Nat} {xs : List Int} {r : (Int × Unit) × Unit} (h : Zq15 8 xs = some r) (hN : 8 ≤ N) : Zq15 N xs = some r := by
  unfold Zq15 at h ⊢
  have go : ∀ (K N' : Nat) (out i : Int), K ≤ N' → ∀ r, Zq15_l0 8 (fun out => some ((out, ()), ())) K out xs (tLen xs) i = some r → Zq15_l0 N (fun out => some ((out, ()), ())) N' out xs (tLen xs) i = some r := by
    intro K
    induction K with
    | zero => intro N' out i _ r h; cases h
    | succ K ih =>
      intro N' out i hN' r h
      obtain ⟨N', rfl⟩ := succ_of (show K < N' by omega)
      simp only [Zq15_l0] at h ⊢
      cases q : ilt i (tLen xs) with
      | false => rw [q] at h; exact h
      | true =>
        rw [q, br_t] at h
        rw [br_t]
        cases q2 : inb xs i with
        | false => rw [q2] at h; cases h
        | true =>
          rw [q2, chk_t] at h
          rw [chk_t]
          exact ih N' _ _ (by omega) r h
  exact go 8 N 0 0 hN r h
theorem asBits_eq {N m n : Nat} (hm : m ≤ 6) (hn : n < 2 ^ m) (hN : 1048577 ≤ N) : Zq15 N (rowB m n) = some (((n : Int), ()), ()) := by
  have h := List.all_eq_true.1 asBitsTab m (List.mem_range.2 (by omega))
  have h := List.all_eq_true.1 h n (List.mem_range.2 hn)
  refine asBits_more (xs := rowB m n) ?_ (by omega)
  split at h
  · rename_i z e
    rw [e]
    have : z = (n : Int) := by simpa using h
    rw [this]
  · cases h
theorem wfI_n {n : Nat} (h : n < 18446744073709551616) : wfI .u64 (n : Int) = true := by
  unfold wfI
  rw [wrap64 h]
  exact ieq_t rfl
theorem hasI_cast {S : List Nat} {w : Nat} : hasI (castL S) (w : Int) = decide (w ∈ S) := by
  unfold hasI castL
  refine decide_eq_decide.2 ?_
  rw [List.mem_map]
  exact ⟨fun ⟨a, h, e⟩ => (show a = w by omega) ▸ h, fun h => ⟨w, h, rfl⟩⟩
theorem cast_len (S : List Nat) : (castL S).length = S.length := by simp [castL]
theorem rd_cast {S : List Nat} {i : Nat} (h : i < S.length) : rd U64 (castL S) (i : Int) = ((S.getD i 0 : Nat) : Int) := by
  show (castL S).getD (i : Int).toNat (0 : Int) = _
  simp [castL, h]
theorem getD_mem {S : List Nat} {i : Nat} (h : i < S.length) : S.getD i 0 ∈ S := by
  have e : S.getD i 0 = S[i] := by simp [h]
  rw [e]
  exact List.getElem_mem h
theorem closed_l0 {R : Type} {N m : Nat} {op : Int} {k0 : Int → List Int → List Int → Option R} (hm : m ≤ 6) {S : List Nat} (hS : ∀ n ∈ S, n < 2 ^ m) (hl : S.length ≤ 64) (hN : 1048577 ≤ N) :
    Zq12_l0 N k0 N op (tLen (S.map (rowB m))) 0 [] [] (S.map (rowB m)) = k0 op (castL S) (castL S) := by
  have h64 := pow_le64 hm
  have go : ∀ (d n K : Nat), n + d = S.length → d < K → Zq12_l0 N k0 K op (tLen (S.map (rowB m))) (n : Int) (castL (S.take n)) (castL (S.take n)) (S.map (rowB m)) = k0 op (castL S) (castL S) := by
    intro d
    induction d with
    | zero =>
      intro n K hd hK
      obtain ⟨K, rfl⟩ := succ_of hK
      simp only [Zq12_l0]
      rw [ilt_lenf (by simp; omega), br_f, List.take_of_length_le (by omega)]
    | succ d ih =>
      intro n K hd hK
      obtain ⟨K, rfl⟩ := succ_of hK
      have hn : n < S.length := by omega
      have hb := hS _ (List.getElem_mem hn)
      have nx := ih (n + 1) K (by omega) (by omega)
      have hlt : (castL (S.take n)).length ≤ 64 := by rw [cast_len, List.length_take]; omega
      simp only [Zq12_l0]
      rw [ilt_len (by simpa using hn), br_t, inb_n (by simpa using hn), chk_t, rdL_n (by simpa using hn), List.getElem_map, asBits_eq hm hb hN, bind_some']
      simp only []
      have hr : room (α := Int) (β := Int) (castL (S.take n)) [((S[n] : Nat) : Int)] = true := room_ok (by simp only [List.length_singleton]; omega)
      rw [wfI_n (by omega), hr, Bool.and_self, chk_t, chk_t, wrap_succ (by omega), tApp_d]
      have e : castL (S.take n) ++ [((S[n] : Nat) : Int)] = castL (S.take (n + 1)) := by
        unfold castL
        rw [List.take_succ_eq_append_getElem hn, List.map_append]
        rfl
      rw [e]
      exact nx
  exact go S.length 0 N (by omega) (by omega)
def clP (op : Int) (S : List Nat) (i j k : Nat) : Prop := clN op (S.getD i 0) (S.getD j 0) (S.getD k 0) ∈ S
theorem closed_k {R : Type} {N m : Nat} {op : Int} {S : List Nat} {k0 : Bool → Bool → Option R} {k1 : Int → Int → Int → Int → Int → Int → Int → Bool → List Int → List Int → Option R} {x3 x4 x5 x6 x7 : Int} {x8 : Bool} (hm : m ≤ 6) (hS : ∀ n ∈ S, n < 2 ^ m) (hl : S.length ≤ 64) (hop : op = 1 ∨ op = 4) {i j : Nat} (hi : i < S.length) (hj : j < S.length) (hN : 1048577 ≤ N) :
    Zq12_l1_0_0 N k0 k1 N op ((S.getD i 0 : Nat) : Int) ((S.getD j 0 : Nat) : Int) x3 x4 x5 x6 x7 x8 (tLen (castL S)) 0 (castL S) (castL S) = open Classical in if ∀ k, k < S.length → clP op S i j k then k1 op ((S.getD i 0 : Nat) : Int) x3 x4 x5 x6 x7 x8 (castL S) (castL S) else k0 false true := by
  classical
  have h64 := pow_le64 hm
  have hb : ∀ i, i < S.length → S.getD i 0 < 2 ^ m := fun i hi => hS _ (getD_mem hi)
  have bi := hb i hi
  have bj := hb j hj
  refine loop_all_if (P := ∀ k, k < S.length → clP op S i j k) (m := S.length) (L := fun K n => Zq12_l1_0_0 N k0 k1 K op ((S.getD i 0 : Nat) : Int) ((S.getD j 0 : Nat) : Int) x3 x4 x5 x6 x7 x8 (tLen (castL S)) (n : Int) (castL S) (castL S)) (clP op S i j) Iff.rfl (kt := k1 op ((S.getD i 0 : Nat) : Int) x3 x4 x5 x6 x7 x8 (castL S) (castL S)) (kf := k0 false true) (fun K n hn => ?_) (fun K n hn hp => ?_) (fun K n hn hp => ?_) (show S.length < N by omega)
  · simp only [Zq12_l1_0_0]
    rw [ilt_lenf (by rw [cast_len]; exact hn), br_f]
  · have bk := hb n hn
    have hw : clN op (S.getD i 0) (S.getD j 0) (S.getD n 0) < 2 ^ m := clN_lt bi bj bk
    unfold clP at hp
    simp only [Zq12_l1_0_0]
    rw [ilt_len (by rw [cast_len]; exact hn), br_t, inb_n (by rw [cast_len]; exact hn), chk_t, rd_cast hn, wrap_succ (by omega)]
    rcases hop with h | h
    · subst h
      simp only [clN, if_true] at hp hw
      rw [ieq_t rfl, br_t, andN (by omega) (by omega), andN (by omega) (by omega), andN (by omega) (by omega), orN (Nat.lt_of_le_of_lt Nat.and_le_left (by omega)) (Nat.lt_of_le_of_lt Nat.and_le_left (by omega)), orN (Nat.lt_of_lt_of_le (Nat.or_lt_two_pow (Nat.and_lt_two_pow _ bj) (Nat.and_lt_two_pow _ bk)) (by omega)) (Nat.lt_of_le_of_lt Nat.and_le_left (by omega)), wfI_n (by omega), chk_t, hasI_cast, decide_eq_true hp]
      simp only [Bool.not_true, br_f]
      rw [ieq_f (by decide), br_f]
    · subst h
      simp only [clN] at hp hw
      simp only [show ¬ ((4 : Int) = 1) by decide, show ¬ ((4 : Int) = 2) by decide, show ¬ ((4 : Int) = 3) by decide, if_false] at hp hw
      rw [ieq_f (by decide), br_f, ieq_t rfl, br_t, xor64 (by omega) (by omega), xor64 (Nat.lt_of_lt_of_le (Nat.xor_lt_two_pow bi bj) (by omega)) (by omega), wfI_n (by omega), chk_t, hasI_cast, decide_eq_true hp]
      simp only [Bool.not_true, br_f]
  · have bk := hb n hn
    have hw : clN op (S.getD i 0) (S.getD j 0) (S.getD n 0) < 2 ^ m := clN_lt bi bj bk
    unfold clP at hp
    simp only [Zq12_l1_0_0]
    rw [ilt_len (by rw [cast_len]; exact hn), br_t, inb_n (by rw [cast_len]; exact hn), chk_t, rd_cast hn, wrap_succ (by omega)]
    rcases hop with h | h
    · subst h
      simp only [clN, if_true] at hp hw
      rw [ieq_t rfl, br_t, andN (by omega) (by omega), andN (by omega) (by omega), andN (by omega) (by omega), orN (Nat.lt_of_le_of_lt Nat.and_le_left (by omega)) (Nat.lt_of_le_of_lt Nat.and_le_left (by omega)), orN (Nat.lt_of_lt_of_le (Nat.or_lt_two_pow (Nat.and_lt_two_pow _ bj) (Nat.and_lt_two_pow _ bk)) (by omega)) (Nat.lt_of_le_of_lt Nat.and_le_left (by omega)), wfI_n (by omega), chk_t, hasI_cast, decide_eq_false hp]
      simp only [Bool.not_false, br_t]
    · subst h
      simp only [clN] at hp hw
      simp only [show ¬ ((4 : Int) = 1) by decide, show ¬ ((4 : Int) = 2) by decide, show ¬ ((4 : Int) = 3) by decide, if_false] at hp hw
      rw [ieq_f (by decide), br_f, ieq_t rfl, br_t, xor64 (by omega) (by omega), xor64 (Nat.lt_of_lt_of_le (Nat.xor_lt_two_pow bi bj) (by omega)) (by omega), wfI_n (by omega), chk_t, hasI_cast, decide_eq_false hp]
      simp only [Bool.not_false, br_t]
theorem closed_j {R : Type} {N m : Nat} {op : Int} {S : List Nat} {k0 : Bool → Bool → Option R} {k1 : Int → Int → Int → List Int → List Int → Option R} {x6 x7 : Int} (hm : m ≤ 6) (hS : ∀ n ∈ S, n < 2 ^ m) (hl : S.length ≤ 64) (hop : 1 ≤ op ∧ op ≤ 4) {i : Nat} (hi : i < S.length) (hN : 1048577 ≤ N) :
    Zq12_l1_0 N k0 k1 N op ((S.getD i 0 : Nat) : Int) x6 x7 (tLen (castL S)) 0 (castL S) (castL S) = open Classical in if ∀ j, j < S.length → ∀ k, k < S.length → clP op S i j k then k1 op x6 x7 (castL S) (castL S) else k0 false true := by
  classical
  have h64 := pow_le64 hm
  have hb : ∀ i, i < S.length → S.getD i 0 < 2 ^ m := fun i hi => hS _ (getD_mem hi)
  have bi := hb i hi
  have same : ∀ n, n < S.length → (op = 2 ∨ op = 3) → ((∀ k, k < S.length → clP op S i n k) ↔ clN op (S.getD i 0) (S.getD n 0) 0 ∈ S) := fun n hn h => by
    have e : ∀ k, clN op (S.getD i 0) (S.getD n 0) k = clN op (S.getD i 0) (S.getD n 0) 0 := fun k => by
      rcases h with h | h <;> (subst h; rfl)
    unfold clP
    constructor
    · intro h2
      have := h2 n hn
      rwa [e] at this
    · intro h2 k hk
      rw [e]
      exact h2
  refine loop_all_if (P := ∀ j, j < S.length → ∀ k, k < S.length → clP op S i j k) (m := S.length) (L := fun K n => Zq12_l1_0 N k0 k1 K op ((S.getD i 0 : Nat) : Int) x6 x7 (tLen (castL S)) (n : Int) (castL S) (castL S)) (fun j => ∀ k, k < S.length → clP op S i j k) Iff.rfl (kt := k1 op x6 x7 (castL S) (castL S)) (kf := k0 false true) (fun K n hn => ?_) (fun K n hn hp => ?_) (fun K n hn hp => ?_) (show S.length < N by omega)
  · simp only [Zq12_l1_0]
    rw [ilt_lenf (by rw [cast_len]; exact hn), br_f]
  · have bj := hb n hn
    have hws : IntKind.i64.wrap ((n : Int) + 1) = ((n + 1 : Nat) : Int) := wrap_succ (by omega)
    simp only [Zq12_l1_0]
    rw [ilt_len (by rw [cast_len]; exact hn), br_t, inb_n (by rw [cast_len]; exact hn), chk_t, rd_cast hn]
    by_cases h2 : op = 2
    · have hp := (same n hn (.inl h2)).1 hp
      subst h2
      simp only [clN, show ¬ ((2 : Int) = 1) by decide, if_false, if_true] at hp
      rw [ieq_t rfl, br_t, andN (by omega) (by omega), wfI_n (Nat.lt_of_le_of_lt Nat.and_le_left (by omega)), chk_t, hasI_cast, decide_eq_true hp, ieq_f (by decide), br_f, br_t, hws]
      rfl
    · by_cases h3 : op = 3
      · have hp := (same n hn (.inr h3)).1 hp
        subst h3
        simp only [clN, show ¬ ((3 : Int) = 1) by decide, show ¬ ((3 : Int) = 2) by decide, if_false, if_true] at hp
        rw [ieq_f (by decide), br_f, ieq_t rfl, br_t, orN (by omega) (by omega), wfI_n (Nat.lt_of_lt_of_le (Nat.or_lt_two_pow bi bj) (by omega)), chk_t, hasI_cast, decide_eq_true hp, br_f, br_t, hws]
        rfl
      · have hop' : op = 1 ∨ op = 4 := by omega
        simp only [ieq_f h2, ieq_f h3, br_f]
        have := closed_k (N := N) (k0 := fun x10 x11 => k0 x10 x11) (k1 := fun x12 x13 x14 x15 x16 x17 x18 x19 o6 o7 => Zq12_l1_0 N k0 k1 K x12 x13 x14 x15 x16 (IntKind.i64.wrap (x17 + 1)) o6 o7) (x3 := x6) (x4 := x7) (x5 := tLen (castL S)) (x6 := (n : Int)) (x7 := op) (x8 := false) hm hS hl hop' hi hn hN
        rw [if_pos hp] at this
        simp only [hws] at this
        exact this
  · have bj := hb n hn
    have hws : IntKind.i64.wrap ((n : Int) + 1) = ((n + 1 : Nat) : Int) := wrap_succ (by omega)
    simp only [Zq12_l1_0]
    rw [ilt_len (by rw [cast_len]; exact hn), br_t, inb_n (by rw [cast_len]; exact hn), chk_t, rd_cast hn]
    by_cases h2 : op = 2
    · have hp := fun q => hp ((same n hn (.inl h2)).2 q)
      subst h2
      simp only [clN, show ¬ ((2 : Int) = 1) by decide, if_false, if_true] at hp
      rw [ieq_t rfl, br_t, andN (by omega) (by omega), wfI_n (Nat.lt_of_le_of_lt Nat.and_le_left (by omega)), chk_t, hasI_cast, decide_eq_false hp]
      rfl
    · by_cases h3 : op = 3
      · have hp := fun q => hp ((same n hn (.inr h3)).2 q)
        subst h3
        simp only [clN, show ¬ ((3 : Int) = 1) by decide, show ¬ ((3 : Int) = 2) by decide, if_false, if_true] at hp
        rw [ieq_f (by decide), br_f, ieq_t rfl, br_t, orN (by omega) (by omega), wfI_n (Nat.lt_of_lt_of_le (Nat.or_lt_two_pow bi bj) (by omega)), chk_t, hasI_cast, decide_eq_false hp]
        rfl
      · have hop' : op = 1 ∨ op = 4 := by omega
        simp only [ieq_f h2, ieq_f h3, br_f]
        have := closed_k (N := N) (k0 := fun x10 x11 => k0 x10 x11) (k1 := fun x12 x13 x14 x15 x16 x17 x18 x19 o6 o7 => Zq12_l1_0 N k0 k1 K x12 x13 x14 x15 x16 (IntKind.i64.wrap (x17 + 1)) o6 o7) (x3 := x6) (x4 := x7) (x5 := tLen (castL S)) (x6 := (n : Int)) (x7 := op) (x8 := false) hm hS hl hop' hi hn hN
        rw [if_neg hp] at this
        exact this
end Go.Proofs.YtfilchmabmfmaaaGreat
