/- Statements on data alone. -/
import Derived.Test.YtfilchmabmfmaaaPvPure
import Derived.Test.YtfilchmabmfmaaaIsClosedGa
set_option linter.all false
set_option linter.all false
namespace Go.Proofs.Ytfilchmabmfmaaa
open Go Go.PV Classical
theorem closed_i {R : Type} {N m : Nat} {op : Int} {S : List Nat} {k0 : Bool → Bool → Option R} {k1 : Unit → Option R} (hm : m ≤ 6) (hS : ∀ n ∈ S, n < 2 ^ m) (hl : S.length ≤ 64) (hop : 1 ≤ op ∧ op ≤ 4) (hN : 1048577 ≤ N) :
    Zq4_l1 N k0 k1 N op (tLen (castL S)) 0 (castL S) (castL S) = open Classical in if ∀ i, i < S.length → ∀ j, j < S.length → ∀ k, k < S.length → clP op S i j k then k1 () else k0 false true := by
  classical
  refine loop_all_if (P := ∀ i, i < S.length → ∀ j, j < S.length → ∀ k, k < S.length → clP op S i j k) (m := S.length) (L := fun K n => Zq4_l1 N k0 k1 K op (tLen (castL S)) (n : Int) (castL S) (castL S)) (fun i => ∀ j, j < S.length → ∀ k, k < S.length → clP op S i j k) Iff.rfl (kt := k1 ()) (kf := k0 false true) (fun K n hn => ?_) (fun K n hn hp => ?_) (fun K n hn hp => ?_) (show S.length < N by omega)
  · simp only [Zq4_l1]
    rw [ilt_lenf (by rw [cast_len]; exact hn), br_f]
  · have hws : IntKind.i64.wrap ((n : Int) + 1) = ((n + 1 : Nat) : Int) := wrap_succ (by omega)
    simp only [Zq4_l1]
    rw [ilt_len (by rw [cast_len]; exact hn), br_t, inb_n (by rw [cast_len]; exact hn), chk_t, rd_cast hn, closed_j hm hS hl hop hn hN, if_pos hp, hws]
  · simp only [Zq4_l1]
    rw [ilt_len (by rw [cast_len]; exact hn), br_t, inb_n (by rw [cast_len]; exact hn), chk_t, rd_cast hn, closed_j hm hS hl hop hn hN, if_neg hp]
theorem rd_rows {m : Nat} {S : List Nat} {i : Nat} (h : i < S.length) : rdL (S.map (rowB m)) (i : Int) = rowB m (S.getD i 0) := by
  rw [rdL_n (by simpa using h), List.getElem_map]
  simp [h]
def slP (op : Int) (m : Nat) (cs : List (List Int)) (S : List Nat) (i j k : Nat) : Prop := solves (rowB m (clN op (S.getD i 0) (S.getD j 0) (S.getD k 0))) cs
theorem ref_k {R : Type} {N m : Nat} {op : Int} {S : List Nat} {cs : List (List Int)} {k0 : Bool → Bool → Option R} {k1 : Int → List (List Int) → Int → Int → Int → List (List Int) → Option R} (hm : m ≤ 6) (hg : goodF ((m : Int), cs)) (h1 : cs.length ≤ 1048576) (hc : ∀ c ∈ cs, c.length ≤ 1048576) (hl : S.length ≤ 64) (hop : 1 ≤ op ∧ op ≤ 4) {i j : Nat} (hi : i < S.length) (hj : j < S.length) (hN : 1048577 ≤ N) :
    Zq24_l0_0_0 N k0 k1 N op (S.map (rowB m)) (i : Int) (j : Int) 0 (m : Int) cs = open Classical in if ∀ k, k < S.length → slP op m cs S i j k then k1 op (S.map (rowB m)) (i : Int) (j : Int) (m : Int) cs else k0 false true := by
  classical
  have step : ∀ n, n < S.length → (Zq31 N op (rdL (S.map (rowB m)) (i : Int)) (rdL (S.map (rowB m)) (j : Int)) (rdL (S.map (rowB m)) (n : Int)) = some ((rowB m (clN op (S.getD i 0) (S.getD j 0) (S.getD n 0)), ()), ()) ∧ Zq33 N ((m : Int), cs) (rowB m (clN op (S.getD i 0) (S.getD j 0) (S.getD n 0))) = some ((decide (slP op m cs S i j n), ()), ())) := fun n hn => by
    rw [rd_rows hi, rd_rows hj, rd_rows hn, l6Result_eq hm hop hN]
    refine ⟨rfl, ?_⟩
    rw [l6Solves_eq (f := ((m : Int), cs)) h1 hc (by rw [row_len]; omega) (by rw [row_len]; exact goodF_lits hg) hN]
    rfl
  refine loop_all_if (P := ∀ k, k < S.length → slP op m cs S i j k) (m := S.length) (L := fun K n => Zq24_l0_0_0 N k0 k1 K op (S.map (rowB m)) (i : Int) (j : Int) (n : Int) (m : Int) cs) (slP op m cs S i j) Iff.rfl (kt := k1 op (S.map (rowB m)) (i : Int) (j : Int) (m : Int) cs) (kf := k0 false true) (fun K n hn => ?_) (fun K n hn hp => ?_) (fun K n hn hp => ?_) (show S.length < N by omega)
  · simp only [Zq24_l0_0_0]
    rw [ilt_lenf (by simpa using hn), br_f]
  · have hws : IntKind.i64.wrap ((n : Int) + 1) = ((n + 1 : Nat) : Int) := wrap_succ (by omega)
    obtain ⟨s1, s2⟩ := step n hn
    simp only [Zq24_l0_0_0]
    rw [ilt_len (by simpa using hn), br_t, inb_n (by simpa using hi), inb_n (by simpa using hj), inb_n (by simpa using hn), chk_t, chk_t, chk_t, s1, bind_some']
    simp only []
    rw [s2, bind_some', decide_eq_true hp, hws]
    rfl
  · obtain ⟨s1, s2⟩ := step n hn
    simp only [Zq24_l0_0_0]
    rw [ilt_len (by simpa using hn), br_t, inb_n (by simpa using hi), inb_n (by simpa using hj), inb_n (by simpa using hn), chk_t, chk_t, chk_t, s1, bind_some']
    simp only []
    rw [s2, bind_some', decide_eq_false hp]
    rfl
theorem ref_j {R : Type} {N m : Nat} {op : Int} {S : List Nat} {cs : List (List Int)} {k0 : Bool → Bool → Option R} {k1 : Int → List (List Int) → Int → Int → List (List Int) → Option R} (hm : m ≤ 6) (hg : goodF ((m : Int), cs)) (h1 : cs.length ≤ 1048576) (hc : ∀ c ∈ cs, c.length ≤ 1048576) (hl : S.length ≤ 64) (hop : 1 ≤ op ∧ op ≤ 4) {i : Nat} (hi : i < S.length) (hN : 1048577 ≤ N) :
    Zq24_l0_0 N k0 k1 N op (S.map (rowB m)) (i : Int) 0 (m : Int) cs = open Classical in if ∀ j, j < S.length → ∀ k, k < S.length → slP op m cs S i j k then k1 op (S.map (rowB m)) (i : Int) (m : Int) cs else k0 false true := by
  classical
  refine loop_all_if (P := ∀ j, j < S.length → ∀ k, k < S.length → slP op m cs S i j k) (m := S.length) (L := fun K n => Zq24_l0_0 N k0 k1 K op (S.map (rowB m)) (i : Int) (n : Int) (m : Int) cs) (fun j => ∀ k, k < S.length → slP op m cs S i j k) Iff.rfl (kt := k1 op (S.map (rowB m)) (i : Int) (m : Int) cs) (kf := k0 false true) (fun K n hn => ?_) (fun K n hn hp => ?_) (fun K n hn hp => ?_) (show S.length < N by omega)
  · simp only [Zq24_l0_0]
    rw [ilt_lenf (by simpa using hn), br_f]
  · have hws : IntKind.i64.wrap ((n : Int) + 1) = ((n + 1 : Nat) : Int) := wrap_succ (by omega)
    simp only [Zq24_l0_0]
    rw [ilt_len (by simpa using hn), br_t, ref_k hm hg h1 hc hl hop hi hn hN, if_pos hp, hws]
  · simp only [Zq24_l0_0]
    rw [ilt_len (by simpa using hn), br_t, ref_k hm hg h1 hc hl hop hi hn hN, if_neg hp]
theorem ref_i {R : Type} {N m : Nat} {op : Int} {S : List Nat} {cs : List (List Int)} {k0 : Bool → Bool → Option R} {k1 : Unit → Option R} (hm : m ≤ 6) (hg : goodF ((m : Int), cs)) (h1 : cs.length ≤ 1048576) (hc : ∀ c ∈ cs, c.length ≤ 1048576) (hl : S.length ≤ 64) (hop : 1 ≤ op ∧ op ≤ 4) (hN : 1048577 ≤ N) :
    Zq24_l0 N k0 k1 N op (S.map (rowB m)) 0 (m : Int) cs = open Classical in if ∀ i, i < S.length → ∀ j, j < S.length → ∀ k, k < S.length → slP op m cs S i j k then k1 () else k0 false true := by
  classical
  refine loop_all_if (P := ∀ i, i < S.length → ∀ j, j < S.length → ∀ k, k < S.length → slP op m cs S i j k) (m := S.length) (L := fun K n => Zq24_l0 N k0 k1 K op (S.map (rowB m)) (n : Int) (m : Int) cs) (fun i => ∀ j, j < S.length → ∀ k, k < S.length → slP op m cs S i j k) Iff.rfl (kt := k1 ()) (kf := k0 false true) (fun K n hn => ?_) (fun K n hn hp => ?_) (fun K n hn hp => ?_) (show S.length < N by omega)
  · simp only [Zq24_l0]
    rw [ilt_lenf (by simpa using hn), br_f]
  · have hws : IntKind.i64.wrap ((n : Int) + 1) = ((n + 1 : Nat) : Int) := wrap_succ (by omega)
    simp only [Zq24_l0]
    rw [ilt_len (by simpa using hn), br_t, ref_j hm hg h1 hc hl hop hn hN, if_pos hp, hws]
  · simp only [Zq24_l0]
    rw [ilt_len (by simpa using hn), br_t, ref_j hm hg h1 hc hl hop hn hN, if_neg hp]
def closedP (f : Int × List (List Int)) (op : Int) : Prop := ∀ a b c, a ∈ solsN f.1.toNat f.2 → b ∈ solsN f.1.toNat f.2 → c ∈ solsN f.1.toNat f.2 → solves (rowB f.1.toNat (clN op a b c)) f.2
noncomputable def closedV (f : Int × List (List Int)) (op : Int) : Bool × Bool := open Classical in if goodF f ∧ 1 ≤ op ∧ op ≤ 4 then (decide (closedP f op), true) else (false, false)
theorem getD_ex {S : List Nat} {a : Nat} (h : a ∈ S) : ∃ i, i < S.length ∧ S.getD i 0 = a := by
  obtain ⟨i, hi, e⟩ := List.getElem_of_mem h
  exact ⟨i, hi, by simp [hi, e]⟩
theorem Closed_both {N : Nat} (hNe : N = 1048577) {f : Int × List (List Int)} {op : Int} (hl : f.2.length ≤ 1048576) (hc : ∀ c ∈ f.2, c.length ≤ 1048576) : Zq24 N f op = some (((closedV f op).1, (closedV f op).2, ()), ()) ∧ Zq4 N f op = some (((closedV f op).1, (closedV f op).2, ()), ()) := by
  classical
  have hN : 1048577 ≤ N := by omega
  unfold Zq24 Zq4 closedV
  simp only [show ((f.1, f.2) : Int × List (List Int)) = f from rfl]
  rw [Zq28_eq hl hc hN, Zq5_eq hl hc hN, bind_some', bind_some', l1In_eq, between_eq, bind_some', bind_some']
  by_cases hg : goodF f
  · rw [decide_eq_true hg]
    simp only [Bool.not_true, br_f]
    by_cases hop : 1 ≤ op ∧ op ≤ 4
    · rw [decide_eq_true hop, if_pos ⟨hg, hop⟩]
      simp only [Bool.not_true, br_f]
      rw [spec_sols_eq hNe hg hl hc, impl_sols_eq hg hl hc hN, bind_some', bind_some']
      simp only []
      have h0 := hg.1
      obtain ⟨v, cs⟩ := f
      simp only at h0 hl hc
      obtain ⟨m, rfl⟩ : ∃ m : Nat, v = m := ⟨v.toNat, by omega⟩
      have hm : m ≤ 6 := by omega
      have h64 := pow_le64 hm
      rw [solsL_rows]
      have hS : ∀ n ∈ solsN m cs, n < 2 ^ m := fun n hn => (mem_solsN.1 hn).1
      have hSl : (solsN m cs).length ≤ 64 := by
        unfold solsN
        exact Nat.le_trans (List.length_filter_le ..) (by simpa using h64)
      have e1 : closedP ((m : Int), cs) op ↔ ∀ i, i < (solsN m cs).length → ∀ j, j < (solsN m cs).length → ∀ k, k < (solsN m cs).length → slP op m cs (solsN m cs) i j k := by
        unfold closedP slP
        simp only [Int.toNat_natCast]
        constructor
        · intro h i hi j hj k hk
          exact h _ _ _ (getD_mem hi) (getD_mem hj) (getD_mem hk)
        · intro h a b c ha hb hc
          obtain ⟨i, hi, rfl⟩ := getD_ex ha
          obtain ⟨j, hj, rfl⟩ := getD_ex hb
          obtain ⟨k, hk, rfl⟩ := getD_ex hc
          exact h i hi j hj k hk
      have e2 : (∀ i, i < (solsN m cs).length → ∀ j, j < (solsN m cs).length → ∀ k, k < (solsN m cs).length → slP op m cs (solsN m cs) i j k) ↔ ∀ i, i < (solsN m cs).length → ∀ j, j < (solsN m cs).length → ∀ k, k < (solsN m cs).length → clP op (solsN m cs) i j k := by
        refine forall_congr' fun i => forall_congr' fun hi => forall_congr' fun j => forall_congr' fun hj => forall_congr' fun k => forall_congr' fun hk => ?_
        unfold slP clP
        rw [mem_solsN]
        exact ⟨fun h => ⟨clN_lt (hS _ (getD_mem hi)) (hS _ (getD_mem hj)) (hS _ (getD_mem hk)), h⟩, fun h => h.2⟩
      rw [ref_i hm hg hl hc hSl hop hN, closed_l0 hm hS hSl hN, closed_i hm hS hSl hop hN]
      by_cases h : closedP ((m : Int), cs) op
      · rw [decide_eq_true h, if_pos (e1.1 h), if_pos (e2.1 (e1.1 h))]
        exact ⟨rfl, rfl⟩
      · rw [decide_eq_false h, if_neg fun q => h (e1.2 q), if_neg fun q => h (e1.2 (e2.2 q))]
        exact ⟨rfl, rfl⟩
    · rw [decide_eq_false hop, if_neg fun q => hop q.2]
      exact ⟨rfl, rfl⟩
  · rw [decide_eq_false hg, if_neg fun q => hg q.1]
    exact ⟨rfl, rfl⟩
theorem IsClosed_pure {f : Int × List (List Int)} {op : Int} (hx : f.2.length ≤ 9223372036854775807) (hxs : ∀ x ∈ f.2, x.length ≤ 9223372036854775807) : Zq10 1048577 f op = some ((true, ()), ()) := by
  unfold Zq10
  have hN : 1048577 ≤ 1048577 := Nat.le_refl _
  obtain ⟨r, h1, h2⟩ := szFormula_eq hx hxs hN
  simp only [h1, bind_some']
  by_cases h : 0 ≤ r
  · rw [ilt_f (by omega), br_f]
    obtain ⟨h3, h4⟩ := h2 h
    obtain ⟨c1, c2⟩ := Closed_both (N := 1048577) rfl (op := op) h3 h4
    simp only [toFormula_eq h3 h4 hN, bind_some', c1, c2, eqFormula_eq h3 h4 hN, beq_self_eq_true, decide_true, Bool.not_true, br_f]
  · rw [ilt_t (by omega), br_t]
theorem IsClosed_pureT : ∀ x : argsT (psOf [QILLI, I]), WfA [QILLI, I] x → ∃ k m, (Zq10_S k).f x = some ((true, ()), m) :=
  fun x h => ⟨1048577, (), IsClosed_pure (len_ok h.1.2.1) fun y hy => len_ok (h.1.2.2 y hy).1⟩
end Go.Proofs.Ytfilchmabmfmaaa
