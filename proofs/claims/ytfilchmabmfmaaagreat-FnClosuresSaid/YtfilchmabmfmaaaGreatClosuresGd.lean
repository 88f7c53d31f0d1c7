/- Statements on data alone. -/
import Derived.Test.YtfilchmabmfmaaaGreatPvPure
import Derived.Test.YtfilchmabmfmaaaGreatClosuresGc
set_option linter.all false
set_option linter.all false
namespace Go.Proofs.YtfilchmabmfmaaaGreat
open Go Go.PV Classical
theorem closed_i {R : Type} {N m : Nat} {op : Int} {S : List Nat} {k0 : Bool → Bool → Option R} {k1 : Unit → Option R} (hm : m ≤ 6) (hS : ∀ n ∈ S, n < 2 ^ m) (hl : S.length ≤ 64) (hop : 1 ≤ op ∧ op ≤ 4) (hN : 1048577 ≤ N) :
    Zq12_l1 N k0 k1 N op (tLen (castL S)) 0 (castL S) (castL S) = open Classical in if ∀ i, i < S.length → ∀ j, j < S.length → ∀ k, k < S.length → clP op S i j k then k1 () else k0 false true := by
  classical
  refine loop_all_if (P := ∀ i, i < S.length → ∀ j, j < S.length → ∀ k, k < S.length → clP op S i j k) (m := S.length) (L := fun K n => Zq12_l1 N k0 k1 K op (tLen (castL S)) (n : Int) (castL S) (castL S)) (fun i => ∀ j, j < S.length → ∀ k, k < S.length → clP op S i j k) Iff.rfl (kt := k1 ()) (kf := k0 false true) (fun K n hn => ?_) (fun K n hn hp => ?_) (fun K n hn hp => ?_) (show S.length < N by omega)
  · simp only [Zq12_l1]
    rw [ilt_lenf (by rw [cast_len]; exact hn), br_f]
  · have hws : IntKind.i64.wrap ((n : Int) + 1) = ((n + 1 : Nat) : Int) := wrap_succ (by omega)
    simp only [Zq12_l1]
    rw [ilt_len (by rw [cast_len]; exact hn), br_t, inb_n (by rw [cast_len]; exact hn), chk_t, rd_cast hn, closed_j hm hS hl hop hn hN, if_pos hp, hws]
  · simp only [Zq12_l1]
    rw [ilt_len (by rw [cast_len]; exact hn), br_t, inb_n (by rw [cast_len]; exact hn), chk_t, rd_cast hn, closed_j hm hS hl hop hn hN, if_neg hp]
theorem rd_rows {m : Nat} {S : List Nat} {i : Nat} (h : i < S.length) : rdL (S.map (rowB m)) (i : Int) = rowB m (S.getD i 0) := by
  rw [rdL_n (by simpa using h), List.getElem_map]
  simp [h]
def slP (op : Int) (m : Nat) (cs : List (List Int)) (S : List Nat) (i j k : Nat) : Prop := solves (rowB m (clN op (S.getD i 0) (S.getD j 0) (S.getD k 0))) cs
theorem ref_k {R : Type} {N m : Nat} {op : Int} {S : List Nat} {cs : List (List Int)} {k0 : Bool → Bool → Option R} {k1 : Int → List (List Int) → Int → Int → Int → List (List Int) → Option R} (hm : m ≤ 6) (hg : goodF ((m : Int), cs)) (h1 : cs.length ≤ 1048576) (hc : ∀ c ∈ cs, c.length ≤ 1048576) (hl : S.length ≤ 64) (hop : 1 ≤ op ∧ op ≤ 4) {i j : Nat} (hi : i < S.length) (hj : j < S.length) (hN : 1048577 ≤ N) :
    Zq55_l0_0_0 N k0 k1 N op (S.map (rowB m)) (i : Int) (j : Int) 0 (m : Int) cs = open Classical in if ∀ k, k < S.length → slP op m cs S i j k then k1 op (S.map (rowB m)) (i : Int) (j : Int) (m : Int) cs else k0 false true := by
  classical
  have step : ∀ n, n < S.length → (Zq79 N op (rdL (S.map (rowB m)) (i : Int)) (rdL (S.map (rowB m)) (j : Int)) (rdL (S.map (rowB m)) (n : Int)) = some ((rowB m (clN op (S.getD i 0) (S.getD j 0) (S.getD n 0)), ()), ()) ∧ Zq81 N ((m : Int), cs) (rowB m (clN op (S.getD i 0) (S.getD j 0) (S.getD n 0))) = some ((decide (slP op m cs S i j n), ()), ())) := fun n hn => by
    rw [rd_rows hi, rd_rows hj, rd_rows hn, l6Result_eq hm hop hN]
    refine ⟨rfl, ?_⟩
    rw [l6Solves_eq (f := ((m : Int), cs)) h1 hc (by rw [row_len]; omega) (by rw [row_len]; exact goodF_lits hg) hN]
    rfl
  refine loop_all_if (P := ∀ k, k < S.length → slP op m cs S i j k) (m := S.length) (L := fun K n => Zq55_l0_0_0 N k0 k1 K op (S.map (rowB m)) (i : Int) (j : Int) (n : Int) (m : Int) cs) (slP op m cs S i j) Iff.rfl (kt := k1 op (S.map (rowB m)) (i : Int) (j : Int) (m : Int) cs) (kf := k0 false true) (fun K n hn => ?_) (fun K n hn hp => ?_) (fun K n hn hp => ?_) (show S.length < N by omega)
  · simp only [Zq55_l0_0_0]
    rw [ilt_lenf (by simpa using hn), br_f]
  · have hws : IntKind.i64.wrap ((n : Int) + 1) = ((n + 1 : Nat) : Int) := wrap_succ (by omega)
    obtain ⟨s1, s2⟩ := step n hn
    simp only [Zq55_l0_0_0]
    rw [ilt_len (by simpa using hn), br_t, inb_n (by simpa using hi), inb_n (by simpa using hj), inb_n (by simpa using hn), chk_t, chk_t, chk_t, s1, bind_some']
    simp only []
    rw [s2, bind_some', decide_eq_true hp, hws]
    rfl
  · obtain ⟨s1, s2⟩ := step n hn
    simp only [Zq55_l0_0_0]
    rw [ilt_len (by simpa using hn), br_t, inb_n (by simpa using hi), inb_n (by simpa using hj), inb_n (by simpa using hn), chk_t, chk_t, chk_t, s1, bind_some']
    simp only []
    rw [s2, bind_some', decide_eq_false hp]
    rfl
theorem ref_j {R : Type} {N m : Nat} {op : Int} {S : List Nat} {cs : List (List Int)} {k0 : Bool → Bool → Option R} {k1 : Int → List (List Int) → Int → Int → List (List Int) → Option R} (hm : m ≤ 6) (hg : goodF ((m : Int), cs)) (h1 : cs.length ≤ 1048576) (hc : ∀ c ∈ cs, c.length ≤ 1048576) (hl : S.length ≤ 64) (hop : 1 ≤ op ∧ op ≤ 4) {i : Nat} (hi : i < S.length) (hN : 1048577 ≤ N) :
    Zq55_l0_0 N k0 k1 N op (S.map (rowB m)) (i : Int) 0 (m : Int) cs = open Classical in if ∀ j, j < S.length → ∀ k, k < S.length → slP op m cs S i j k then k1 op (S.map (rowB m)) (i : Int) (m : Int) cs else k0 false true := by
  classical
  refine loop_all_if (P := ∀ j, j < S.length → ∀ k, k < S.length → slP op m cs S i j k) (m := S.length) (L := fun K n => Zq55_l0_0 N k0 k1 K op (S.map (rowB m)) (i : Int) (n : Int) (m : Int) cs) (fun j => ∀ k, k < S.length → slP op m cs S i j k) Iff.rfl (kt := k1 op (S.map (rowB m)) (i : Int) (m : Int) cs) (kf := k0 false true) (fun K n hn => ?_) (fun K n hn hp => ?_) (fun K n hn hp => ?_) (show S.length < N by omega)
  · simp only [Zq55_l0_0]
    rw [ilt_lenf (by simpa using hn), br_f]
  · have hws : IntKind.i64.wrap ((n : Int) + 1) = ((n + 1 : Nat) : Int) := wrap_succ (by omega)
    simp only [Zq55_l0_0]
    rw [ilt_len (by simpa using hn), br_t, ref_k hm hg h1 hc hl hop hi hn hN, if_pos hp, hws]
  · simp only [Zq55_l0_0]
    rw [ilt_len (by simpa using hn), br_t, ref_k hm hg h1 hc hl hop hi hn hN, if_neg hp]
theorem ref_i {R : Type} {N m : Nat} {op : Int} {S : List Nat} {cs : List (List Int)} {k0 : Bool → Bool → Option R} {k1 : Unit → Option R} (hm : m ≤ 6) (hg : goodF ((m : Int), cs)) (h1 : cs.length ≤ 1048576) (hc : ∀ c ∈ cs, c.length ≤ 1048576) (hl : S.length ≤ 64) (hop : 1 ≤ op ∧ op ≤ 4) (hN : 1048577 ≤ N) :
    Zq55_l0 N k0 k1 N op (S.map (rowB m)) 0 (m : Int) cs = open Classical in if ∀ i, i < S.length → ∀ j, j < S.length → ∀ k, k < S.length → slP op m cs S i j k then k1 () else k0 false true := by
  classical
  refine loop_all_if (P := ∀ i, i < S.length → ∀ j, j < S.length → ∀ k, k < S.length → slP op m cs S i j k) (m := S.length) (L := fun K n => Zq55_l0 N k0 k1 K op (S.map (rowB m)) (n : Int) (m : Int) cs) (fun i => ∀ j, j < S.length → ∀ k, k < S.length → slP op m cs S i j k) Iff.rfl (kt := k1 ()) (kf := k0 false true) (fun K n hn => ?_) (fun K n hn hp => ?_) (fun K n hn hp => ?_) (show S.length < N by omega)
  · simp only [Zq55_l0]
    rw [ilt_lenf (by simpa using hn), br_f]
  · have hws : IntKind.i64.wrap ((n : Int) + 1) = ((n + 1 : Nat) : Int) := wrap_succ (by omega)
    simp only [Zq55_l0]
    rw [ilt_len (by simpa using hn), br_t, ref_j hm hg h1 hc hl hop hn hN, if_pos hp, hws]
  · simp only [Zq55_l0]
    rw [ilt_len (by simpa using hn), br_t, ref_j hm hg h1 hc hl hop hn hN, if_neg hp]
def closedP (f : Int × List (List Int)) (op : Int) : Prop := ∀ a b c, a ∈ solsN f.1.toNat f.2 → b ∈ solsN f.1.toNat f.2 → c ∈ solsN f.1.toNat f.2 → solves (rowB f.1.toNat (clN op a b c)) f.2
noncomputable def closedV (f : Int × List (List Int)) (op : Int) : Bool × Bool := open Classical in if goodF f ∧ 1 ≤ op ∧ op ≤ 4 then (decide (closedP f op), true) else (false, false)
theorem getD_ex {S : List Nat} {a : Nat} (h : a ∈ S) : ∃ i, i < S.length ∧ S.getD i 0 = a := by
  obtain ⟨i, hi, e⟩ := List.getElem_of_mem h
  exact ⟨i, hi, by simp [hi, e]⟩
theorem closed_iff {m : Nat} {cs : List (List Int)} {op : Int} : closedP ((m : Int), cs) op ↔ ∀ i, i < (solsN m cs).length → ∀ j, j < (solsN m cs).length → ∀ k, k < (solsN m cs).length → clP op (solsN m cs) i j k := by
  have hS : ∀ n ∈ solsN m cs, n < 2 ^ m := fun n hn => (mem_solsN.1 hn).1
  unfold closedP clP
  simp only [Int.toNat_natCast]
  constructor
  · intro h i hi j hj k hk
    exact mem_solsN.2 ⟨clN_lt (hS _ (getD_mem hi)) (hS _ (getD_mem hj)) (hS _ (getD_mem hk)), h _ _ _ (getD_mem hi) (getD_mem hj) (getD_mem hk)⟩
  · intro h a b c ha hb hc
    obtain ⟨i, hi, rfl⟩ := getD_ex ha
    obtain ⟨j, hj, rfl⟩ := getD_ex hb
    obtain ⟨k, hk, rfl⟩ := getD_ex hc
    exact (mem_solsN.1 (h i hi j hj k hk)).2
theorem solsN_len {m : Nat} (hm : m ≤ 6) (cs : List (List Int)) : (solsN m cs).length ≤ 64 := by
  have h64 := pow_le64 hm
  unfold solsN
  exact Nat.le_trans (List.length_filter_le ..) (by simpa using h64)
theorem Closed_impl {N : Nat} {f : Int × List (List Int)} {op : Int} (hl : f.2.length ≤ 1048576) (hc : ∀ c ∈ f.2, c.length ≤ 1048576) (hN : 1048577 ≤ N) : Zq12 N f op = some (((closedV f op).1, (closedV f op).2, ()), ()) := by
  classical
  unfold Zq12 closedV
  simp only [show ((f.1, f.2) : Int × List (List Int)) = f from rfl]
  rw [Zq13_eq hl hc hN, bind_some', between_eq, bind_some']
  by_cases hg : goodF f
  · rw [decide_eq_true hg]
    simp only [Bool.not_true, br_f]
    by_cases hop : 1 ≤ op ∧ op ≤ 4
    · rw [decide_eq_true hop, if_pos ⟨hg, hop⟩]
      simp only [Bool.not_true, br_f]
      rw [impl_sols_eq hg hl hc hN, bind_some']
      simp only []
      have h0 := hg.1
      obtain ⟨v, cs⟩ := f
      simp only at h0 hl hc
      obtain ⟨m, rfl⟩ : ∃ m : Nat, v = m := ⟨v.toNat, by omega⟩
      have hm : m ≤ 6 := by omega
      rw [solsL_rows]
      have hS : ∀ n ∈ solsN m cs, n < 2 ^ m := fun n hn => (mem_solsN.1 hn).1
      have hSl := solsN_len hm cs
      rw [closed_l0 hm hS hSl hN, closed_i hm hS hSl hop hN]
      by_cases h : closedP ((m : Int), cs) op
      · rw [decide_eq_true h, if_pos (closed_iff.1 h)]
      · rw [decide_eq_false h, if_neg fun q => h (closed_iff.2 q)]
    · rw [decide_eq_false hop, if_neg fun q => hop q.2]
      rfl
  · rw [decide_eq_false hg, if_neg fun q => hg q.1]
    rfl
theorem Closed_both {N : Nat} (hNe : N = 1048577) {f : Int × List (List Int)} {op : Int} (hl : f.2.length ≤ 1048576) (hc : ∀ c ∈ f.2, c.length ≤ 1048576) : Zq55 N f op = some (((closedV f op).1, (closedV f op).2, ()), ()) ∧ Zq12 N f op = some (((closedV f op).1, (closedV f op).2, ()), ()) := by
  classical
  have hN : 1048577 ≤ N := by omega
  refine ⟨?_, Closed_impl hl hc hN⟩
  unfold Zq55 closedV
  simp only [show ((f.1, f.2) : Int × List (List Int)) = f from rfl]
  rw [Zq75_eq hl hc hN, bind_some', l1In_eq, bind_some']
  by_cases hg : goodF f
  · rw [decide_eq_true hg]
    simp only [Bool.not_true, br_f]
    by_cases hop : 1 ≤ op ∧ op ≤ 4
    · rw [decide_eq_true hop, if_pos ⟨hg, hop⟩]
      simp only [Bool.not_true, br_f]
      rw [spec_sols_eq hNe hg hl hc, bind_some']
      simp only []
      have h0 := hg.1
      obtain ⟨v, cs⟩ := f
      simp only at h0 hl hc
      obtain ⟨m, rfl⟩ : ∃ m : Nat, v = m := ⟨v.toNat, by omega⟩
      have hm : m ≤ 6 := by omega
      rw [solsL_rows]
      have hS : ∀ n ∈ solsN m cs, n < 2 ^ m := fun n hn => (mem_solsN.1 hn).1
      have hSl := solsN_len hm cs
      have e2 : (∀ i, i < (solsN m cs).length → ∀ j, j < (solsN m cs).length → ∀ k, k < (solsN m cs).length → slP op m cs (solsN m cs) i j k) ↔ closedP ((m : Int), cs) op := by
        rw [closed_iff]
        refine forall_congr' fun i => forall_congr' fun hi => forall_congr' fun j => forall_congr' fun hj => forall_congr' fun k => forall_congr' fun hk => ?_
        unfold slP clP
        rw [mem_solsN]
        exact ⟨fun h => ⟨clN_lt (hS _ (getD_mem hi)) (hS _ (getD_mem hj)) (hS _ (getD_mem hk)), h⟩, fun h => h.2⟩
      rw [ref_i hm hg hl hc hSl hop hN]
      by_cases h : closedP ((m : Int), cs) op
      · rw [decide_eq_true h, if_pos (e2.2 h)]
      · rw [decide_eq_false h, if_neg fun q => h (e2.1 q)]
    · rw [decide_eq_false hop, if_neg fun q => hop q.2]
      rfl
  · rw [decide_eq_false hg, if_neg fun q => hg q.1]
    rfl
theorem clauseTab : ((List.range 7).all fun m => (allB m).all fun b0 => (allB m).all fun b => ((clauseF b0).any (meets b)) == !(b == b0)) = true := by kernel_rfl
theorem clause_meets {m : Nat} (hm : m ≤ 6) {b0 b : List Int} (h0 : b0 ∈ allB m) (h : b ∈ allB m) : (clauseF b0).any (meets b) = true ↔ b ≠ b0 := by
  have h1 := List.all_eq_true.1 clauseTab m (List.mem_range.2 (by omega))
  have h2 := List.all_eq_true.1 h1 b0 h0
  have h3 := List.all_eq_true.1 h2 b h
  rw [beq_iff_eq] at h3
  rw [h3]
  simp
def litB (v : Int) (c : List Int) (k : Nat) : Bool := (!(rdI c k == 0) && decide (-v ≤ rdI c k)) && (decide (rdI c k ≤ v) && (decide (k = 0) || decide (rdI c ((k - 1 : Nat) : Int) < rdI c k)))
theorem clauseOkTab : ((List.range 7).all fun m => (allB m).all fun b => (List.range (clauseF b).length).all fun k => litB (m : Int) (clauseF b) k) = true := by kernel_rfl
theorem clause_ok {m : Nat} (hm : m ≤ 6) {b : List Int} (h : b ∈ allB m) : clauseOk (m : Int) (clauseF b) := by
  have h1 := List.all_eq_true.1 clauseOkTab m (List.mem_range.2 (by omega))
  have h2 := List.all_eq_true.1 h1 b h
  intro k hk
  have h3 := List.all_eq_true.1 h2 k (List.mem_range.2 hk)
  unfold litB at h3
  simp only [Bool.and_eq_true, Bool.or_eq_true, decide_eq_true_eq, Bool.not_eq_true', beq_eq_false_iff_ne] at h3
  obtain ⟨⟨a1, a2⟩, a3, a4⟩ := h3
  exact ⟨a1, a2, a3, fun h0 => a4.resolve_left (by omega)⟩
theorem mem_formR {m : Nat} {ss : List (List Int)} {c : List Int} : c ∈ formR m ss ↔ ∃ b, b ∈ allB m ∧ b ∉ ss ∧ c = clauseF b := by
  have key : ∀ (xs o : List (List Int)), c ∈ xs.foldl (formStep ss) o ↔ c ∈ o ∨ ∃ b, b ∈ xs ∧ b ∉ ss ∧ c = clauseF b := by
    intro xs
    induction xs with
    | nil => intro o; simp
    | cons b xs ih =>
      intro o
      rw [List.foldl_cons, ih]
      unfold formStep
      by_cases h : b ∈ ss
      · rw [if_pos h]
        constructor
        · rintro (q | ⟨b', q1, q2⟩)
          · exact .inl q
          · exact .inr ⟨b', List.mem_cons_of_mem _ q1, q2⟩
        · rintro (q | ⟨b', q1, q2⟩)
          · exact .inl q
          · rcases List.mem_cons.1 q1 with rfl | q1
            · exact absurd h q2.1
            · exact .inr ⟨b', q1, q2⟩
      · rw [if_neg h, List.mem_append, List.mem_singleton]
        constructor
        · rintro ((q | q) | ⟨b', q1, q2⟩)
          · exact .inl q
          · exact .inr ⟨b, List.mem_cons_self .., h, q⟩
          · exact .inr ⟨b', List.mem_cons_of_mem _ q1, q2⟩
        · rintro (q | ⟨b', q1, q2⟩)
          · exact .inl (.inl q)
          · rcases List.mem_cons.1 q1 with rfl | q1
            · exact .inl (.inr q2.2)
            · exact .inr ⟨b', q1, q2⟩
  unfold formR
  rw [key]
  simp
theorem form_solves {m : Nat} (hm : m ≤ 6) {ss : List (List Int)} {b : List Int} (h : b ∈ allB m) : solves b (formR m ss) ↔ b ∈ ss := by
  unfold solves
  constructor
  · intro q
    refine Classical.byContradiction fun hn => ?_
    exact (clause_meets hm h h).1 (q _ (mem_formR.2 ⟨b, h, hn, rfl⟩)) rfl
  · intro hs c hc
    obtain ⟨b0, h0, hn, rfl⟩ := mem_formR.1 hc
    exact (clause_meets hm h0 h).2 fun e => hn (e ▸ hs)
theorem formR_len {m : Nat} (hm : m ≤ 6) (ss : List (List Int)) : (formR m ss).length ≤ 64 := by
  have h64 := pow_le64 hm
  have key : ∀ (xs o : List (List Int)), (xs.foldl (formStep ss) o).length ≤ o.length + xs.length := by
    intro xs
    induction xs with
    | nil => intro o; simp
    | cons b xs ih =>
      intro o
      have h1 := ih (formStep ss o b)
      have h2 := formStep_len (ss := ss) (o := o) (b := b)
      rw [List.foldl_cons, List.length_cons]
      omega
  have := key (allB m) []
  rw [allB_len] at this
  unfold formR
  simp only [List.length_nil] at this
  omega
theorem formR_good {m : Nat} (hm : m ≤ 6) (ss : List (List Int)) : goodF ((m : Int), formR m ss) := by
  refine ⟨⟨by simp only; omega, by simp only; omega⟩, formR_len hm ss, fun i hi => ?_⟩
  simp only at hi
  have hmem : rdL (formR m ss) (i : Int) ∈ formR m ss := by rw [rdL_n hi]; exact List.getElem_mem hi
  obtain ⟨b, h1, _, e⟩ := mem_formR.1 hmem
  simp only
  rw [e]
  exact clause_ok hm h1
theorem row_bits (m n : Nat) : ∀ z ∈ rowB m n, z = 0 ∨ z = 1 := fun z hz => by
  unfold rowB at hz
  obtain ⟨v, _, rfl⟩ := List.mem_map.1 hz
  rw [bitAt_z]
  cases n.testBit (m - 1 - v)
  · exact .inl rfl
  · exact .inr rfl
theorem row_maj (m a b c : Nat) : rowB m (clN 1 a b c) = mid (rowB m a) (rowB m b) (rowB m c) := by
  refine rd_ext (by rw [mid_len, row_len, row_len]) fun i hi => ?_
  rw [row_len] at hi
  rw [mid_rd (by rw [row_len]; exact hi), rd_row hi, rd_row hi, rd_row hi, rd_row hi]
  simp only [clN, if_true, Nat.testBit_or, Nat.testBit_and]
  cases a.testBit (m - 1 - i) <;> cases b.testBit (m - 1 - i) <;> cases c.testBit (m - 1 - i) <;> rfl
theorem row_and (m a b c : Nat) : rowB m (clN 2 a b c) = met 1 (rowB m a) (rowB m b) := by
  refine rd_ext (by rw [met_len, row_len, row_len]) fun i hi => ?_
  rw [row_len] at hi
  rw [met_rd (by rw [row_len]; exact hi), rd_row hi, rd_row hi, rd_row hi]
  have e : clN 2 a b c = a &&& b := rfl
  rw [e, Nat.testBit_and]
  cases a.testBit (m - 1 - i) <;> cases b.testBit (m - 1 - i) <;> rfl
theorem row_or (m a b c : Nat) : rowB m (clN 3 a b c) = met 0 (rowB m a) (rowB m b) := by
  refine rd_ext (by rw [met_len, row_len, row_len]) fun i hi => ?_
  rw [row_len] at hi
  rw [met_rd (by rw [row_len]; exact hi), rd_row hi, rd_row hi, rd_row hi]
  have e : clN 3 a b c = a ||| b := rfl
  rw [e, Nat.testBit_or]
  cases a.testBit (m - 1 - i) <;> cases b.testBit (m - 1 - i) <;> rfl
theorem goodF_litsN {f : Int × List (List Int)} (hg : goodF f) : litsOk ((f.1.toNat : Nat) : Int) f.2 := by
  have h0 := hg.1
  rw [show ((f.1.toNat : Nat) : Int) = f.1 by omega]
  exact goodF_lits hg
theorem closed_two {f : Int × List (List Int)} (hg : goodF f) (h : (f.2.foldl classF (true, true, true)).1 = true) : closedP f 1 := fun a b c ha hb hc => by
  rw [row_maj]
  exact mid_solves (row_len ..) (row_len ..) (row_len ..) (row_bits _ _) (row_bits _ _) (goodF_litsN hg) (fold_two _ _ h).2 (mem_solsN.1 ha).2 (mem_solsN.1 hb).2 (mem_solsN.1 hc).2
theorem closed_horn {f : Int × List (List Int)} (hg : goodF f) (h : (f.2.foldl classF (true, true, true)).2.1 = true) : closedP f 2 := fun a b c ha hb _ => by
  rw [row_and]
  exact met_solves (.inr rfl) (row_len ..) (row_len ..) (row_bits _ _) (row_bits _ _) (goodF_litsN hg) ((fold_horn _ _).1 h).2 (mem_solsN.1 ha).2 (mem_solsN.1 hb).2
theorem closed_dual {f : Int × List (List Int)} (hg : goodF f) (h : (f.2.foldl classF (true, true, true)).2.2 = true) : closedP f 3 := fun a b c ha hb _ => by
  rw [row_or]
  exact met_solves (.inl rfl) (row_len ..) (row_len ..) (row_bits _ _) (row_bits _ _) (goodF_litsN hg) ((fold_horn _ _).2 h).2 (mem_solsN.1 ha).2 (mem_solsN.1 hb).2
theorem negL_cases (vs : List Int) (x : Int) : negL vs x = x ∨ negL vs x = -x := by
  unfold negL
  by_cases hz : (if -x < x then x else -x) - 1 ∈ vs
  · exact .inr (if_pos hz)
  · exact .inl (if_neg hz)
theorem negL_twice (vs : List Int) (x : Int) : negL vs (negL vs x) = x := by
  have e : (if -(-x) < -x then -x else -(-x)) = (if -x < x then x else -x) := by
    by_cases h1 : -x < x
    · rw [if_pos h1, if_neg (by omega)]; omega
    · rw [if_neg h1]
      by_cases h2 : x = 0
      · subst h2; rfl
      · rw [if_pos (by omega)]
  by_cases hz : (if -x < x then x else -x) - 1 ∈ vs
  · have h1 : negL vs x = -x := if_pos hz
    rw [h1]
    unfold negL
    rw [e, if_pos hz]
    omega
  · have h1 : negL vs x = x := if_neg hz
    rw [h1, h1]
theorem clause_lits {v : Int} {c : List Int} (h : clauseOk v c) : ∀ x ∈ c, x ≠ 0 ∧ -v ≤ x ∧ x ≤ v := fun x hx => by
  obtain ⟨i, hi, rfl⟩ := List.getElem_of_mem hx
  have := h i hi
  unfold litOk at this
  rw [rdI_n hi] at this
  exact ⟨this.1, this.2.1, this.2.2.1⟩
theorem asc_strict_eq {a b : List Int} (ha : a.Pairwise (· ≤ ·)) (hb : b.Pairwise (· < ·)) (h : a.Perm b) : a = b :=
  h.eq_of_pairwise (fun x y _ _ h1 h2 => by omega) ha (hb.imp fun h => Int.le_of_lt h)
theorem asc_pw {a : List Int} (h : asc a) : a.Pairwise (· ≤ ·) := h
theorem negC_twice {v : Int} {c vs : List Int} (h : clauseOk v c) : negC vs (negC vs c) = c := by
  unfold negC
  refine asc_strict_eq (asc_pw (sortI_len_asc _).2) (clause_asc h) ?_
  refine (sortI_perm _).trans (((sortI_perm (c.map (negL vs))).map (negL vs)).trans ?_)
  rw [List.map_map]
  have e : c.map (negL vs ∘ negL vs) = c := (List.map_congr_left fun x _ => negL_twice vs x).trans (List.map_id c)
  rw [e]
theorem negC_ok {v : Int} {c vs : List Int} (h : clauseOk v c) : clauseOk v (negC vs c) := by
  have hn : (c.map (negL vs)).Nodup := by
    have h1 := clause_lits h
    have h2 := (clause_asc h).imp fun {a b : Int} (q : a < b) => (show a ≠ b by omega)
    exact List.pairwise_map.2 (List.Pairwise.imp_of_mem (fun {a b} ha hb q e => q (negL_inj (h1 a ha).1 e)) h2)
  have hs : (negC vs c).Pairwise (· < ·) := sortI_strict hn
  intro k hk
  have hm : rdI (negC vs c) (k : Int) ∈ negC vs c := by rw [rdI_n hk]; exact List.getElem_mem hk
  obtain ⟨x, hx, e⟩ := List.mem_map.1 ((sortI_mem _ _).1 hm)
  have h1 := clause_lits h x hx
  refine ⟨?_, ?_, ?_, fun h0 => ?_⟩
  · rcases negL_cases vs x with q | q <;> omega
  · rcases negL_cases vs x with q | q <;> omega
  · rcases negL_cases vs x with q | q <;> omega
  · have := List.pairwise_iff_getElem.1 hs (k - 1) k (by omega) hk (by omega)
    rw [rdI_n hk, rdI_n (show k - 1 < (negC vs c).length by omega)]
    exact this
theorem neg_good {f : Int × List (List Int)} (hg : goodF f) (vs : List Int) : goodF (f.1, f.2.map (negC vs)) := by
  refine ⟨hg.1, by simpa using hg.2.1, fun i hi => ?_⟩
  simp only at hi ⊢
  have hi2 : i < f.2.length := by simpa using hi
  rw [rdL_n hi, List.getElem_map, ← rdL_n hi2]
  exact negC_ok (hg.2.2 i hi2)
theorem neg_back {f : Int × List (List Int)} (hg : goodF f) (vs : List Int) : (f.2.map (negC vs)).map (negC vs) = f.2 := by
  rw [List.map_map]
  refine (List.map_congr_left fun c hc => ?_).trans (List.map_id f.2)
  have h4 : ∀ c ∈ f.2, clauseOk f.1 c := all_rdL.2 hg.2.2
  exact negC_twice (h4 c hc)
theorem cnt_negC {v : Int} {c vs : List Int} (h : clauseOk v c) (hv : ∀ x : Int, 0 ≤ x → x < v → x ∈ vs) : cntI (negC vs c) = (c.length : Int) - cntI c := by
  have h1 := clause_lits h
  rw [cnt_pos, cnt_pos]
  have hp : ((negC vs c).filter (litC 1)).length = ((c.map (negL vs)).filter (litC 1)).length := ((sortI_perm (c.map (negL vs))).filter _).length_eq
  rw [hp, List.filter_map, List.length_map]
  have e : c.filter (litC 1 ∘ negL vs) = c.filter fun x => !litC 1 x := List.filter_congr fun x hx => by
    have h2 := h1 x hx
    have hin : (if -x < x then x else -x) - 1 ∈ vs := hv _ (by split <;> omega) (by split <;> omega)
    have e2 : negL vs x = -x := if_pos hin
    show litC 1 (negL vs x) = !litC 1 x
    rw [e2]
    unfold litC
    rw [if_pos rfl, if_pos rfl, ← decide_not]
    exact decide_eq_decide.2 (by omega)
  rw [e]
  have key : ∀ l : List Int, (l.filter (litC 1)).length + (l.filter fun x => !litC 1 x).length = l.length := by
    intro l
    induction l with
    | nil => rfl
    | cons x l ih => by_cases q : litC 1 x = true <;> simp [q] <;> omega
  have := key c
  omega
theorem fold_neg {v : Int} {vs : List Int} (hv : ∀ x : Int, 0 ≤ x → x < v → x ∈ vs) : ∀ (cs : List (List Int)) (t : Bool × Bool × Bool), (∀ c ∈ cs, clauseOk v c) →
    (cs.map (negC vs)).foldl classF (t.1, t.2.2, t.2.1) = ((cs.foldl classF t).1, (cs.foldl classF t).2.2, (cs.foldl classF t).2.1) := by
  intro cs
  induction cs with
  | nil => intro t _; rfl
  | cons c cs ih =>
    intro t h
    have hc := h c (List.mem_cons_self ..)
    have e : classF (t.1, t.2.2, t.2.1) (negC vs c) = ((classF t c).1, (classF t c).2.2, (classF t c).2.1) := by
      unfold classF
      rw [negC_len, cnt_negC hc hv]
      simp only [show ((c.length : Int) - ((c.length : Int) - cntI c)) = cntI c by omega]
    rw [List.map_cons, List.foldl_cons, List.foldl_cons, e]
    exact ih (classF t c) fun d hd => h d (List.mem_cons_of_mem _ hd)
theorem all_vars {n : Int} {vs : List Int} (hr : rising 0 (n - 1) vs) (hl : (vs.length : Int) = n) : ∀ x : Int, 0 ≤ x → x < n → x ∈ vs := fun x h0 h1 => by
  have hin := rising_in hr
  have hst : vs.Pairwise (· < ·) := rising_strict hr
  refine Classical.byContradiction fun hx => ?_
  have hnd : (x :: vs).Nodup := List.nodup_cons.2 ⟨hx, hst.imp fun h e => by omega⟩
  have := nodup_le hnd (b := (List.range' 0 n.toNat).map fun i : Nat => (i : Int)) fun z hz => by
    have hz' : 0 ≤ z ∧ z < n := by
      rcases List.mem_cons.1 hz with rfl | hz
      · exact ⟨h0, h1⟩
      · have := hin z hz; omega
    exact List.mem_map.2 ⟨z.toNat, List.mem_range'_1.2 ⟨by omega, by omega⟩, by omega⟩
  simp only [List.length_cons, List.length_map, List.length_range'] at this
  omega
theorem neg_class {f : Int × List (List Int)} {vs : List Int} (hg : goodF f) (hr : rising 0 (f.1 - 1) vs) (hl : (vs.length : Int) = f.1) : (classV (f.1, f.2.map (negC vs))).1 = ((classV f).1.1, (classV f).1.2.2, (classV f).1.2.1) := by
  unfold classV
  rw [if_pos hg, if_pos (neg_good hg vs)]
  exact fold_neg (all_vars hr hl) f.2 (true, true, true) (all_rdL.2 hg.2.2)
theorem fix_good {f : Int × List (List Int)} {v bit : Int} (h : fixOk f v bit) : goodF (f.1, f.2 ++ [[if bit = 1 then v + 1 else -1 - v]]) := by
  obtain ⟨hg, hv, hb, hl⟩ := h
  have h2 := hg.2.1
  refine ⟨hg.1, by simp; omega, ?_⟩
  refine all_rdL.1 fun c hc => ?_
  simp only at hc ⊢
  rcases List.mem_append.1 hc with hc | hc
  · exact all_rdL.2 hg.2.2 c hc
  · rw [List.mem_singleton.1 hc]
    intro k hk
    have : k = 0 := by simp at hk; omega
    subst this
    have e : rdI [if bit = 1 then v + 1 else -1 - v] ((0 : Nat) : Int) = if bit = 1 then v + 1 else -1 - v := rfl
    unfold litOk
    rw [e]
    refine ⟨?_, ?_, ?_, fun h => by omega⟩ <;> split <;> omega
theorem fix_bit {f : Int × List (List Int)} {v bit : Int} (h : fixOk f v bit) {x : List Int} (hx : x ∈ solsL (f.1, f.2 ++ [[if bit = 1 then v + 1 else -1 - v]])) : x.length = f.1.toNat ∧ rdI x v = bit := by
  obtain ⟨⟨l1, l2⟩, l3⟩ := (mem_sols (fix_good h)).1 hx
  obtain ⟨hg, hv, hb, hl⟩ := h
  refine ⟨l1, ?_⟩
  have := l3 [if bit = 1 then v + 1 else -1 - v] (List.mem_append_right _ (List.mem_singleton.2 rfl))
  simp only [List.any_cons, List.any_nil, Bool.or_false] at this
  unfold meets at this
  by_cases hb1 : bit = 1
  · rw [if_pos hb1, if_pos (by omega)] at this
    have := of_decide_eq_true this
    rw [show v + 1 - 1 = v by omega] at this
    omega
  · rw [if_neg hb1, if_neg (by omega)] at this
    have := of_decide_eq_true this
    rw [show -1 - (-1 - v) = v by omega] at this
    omega
theorem DrawFix_ok {N : Nat} {code : List Int} (hco : codeOk code) (hN : 1048577 ≤ N) : ∃ (f : Int × List (List Int)) (v bit : Int), Zq48 N code = some (((f.1, f.2), v, bit, ()), ()) ∧ listsOk 200 8 f.2 := by
  unfold Zq48
  obtain ⟨f, c1, a1, a2, a3⟩ := formula_ok (N := N) hco hN cur0 (by omega)
  rw [a1, bind_some']
  simp only []
  rw [l1Least_eq, bind_some', l1Most_eq, bind_some']
  simp only [show ((c1.1, (c1.2.1, c1.2.2)) : List Int × (Int × Int)) = c1 from rfl]
  obtain ⟨x, c2, b1, b2, _⟩ := pick_ok (N := N) hco a2 (by omega) (IntKind.i64.wrap ((if 0 < (if f.1 < 7 then f.1 else 7) then (if f.1 < 7 then f.1 else 7) else 0) + 2))
  rw [b1, bind_some']
  simp only []
  obtain ⟨y, c3, d1, d2, _⟩ := pick_ok (N := N) hco b2 (by omega) 2
  rw [d1, bind_some']
  simp only []
  obtain ⟨z, c4, e1, e2, _⟩ := among_ok (N := N) hco d2 (by omega) (l := [0, 1, 0, 1, 2, (-1)]) (by simp)
  rw [e1, bind_some']
  exact ⟨f, _, z, rfl, a3⟩
theorem lists_le {f : Int × List (List Int)} (h : listsOk 200 8 f.2) : f.2.length ≤ 1048576 ∧ ∀ c ∈ f.2, c.length ≤ 1048576 := ⟨by have := h.1; omega, fun c hc => by have := h.2 c hc; omega⟩
theorem sols_small {f : Int × List (List Int)} (hg : goodF f) : (solsL f).length ≤ 64 := by
  have h0 := hg.1
  exact (sols_ok (m := f.1.toNat) (by omega) (fun b => decide (solves b f.2))).2.2.1
theorem clo_fix {N : Nat} (hNe : N = 1048577) {c : List Int} (hco : codeOk c) :
    ((Zq48 N c).bind fun r27 => ((Zq3 N (r27.1.1.1, r27.1.1.2) r27.1.2.1 r27.1.2.2.1).bind fun r28 => ((Zq52 N (r27.1.1.1, r27.1.1.2) r27.1.2.1 r27.1.2.2.1).bind fun r29 => (br (! (r28.1.2.1 == r29.1.2.1)) (some ((false, ()), ())) ((br (ine r28.1.1.1 r29.1.1.1) (some ((false, ()), ())) (((Zq36 N r28.1.1.2 r29.1.1.2).bind fun r30 => (br (!r30.1.1) (some ((false, ()), ())) ((br (!r28.1.2.1) (some ((true, ()), ())) (((Zq4 N (r28.1.1.1, r28.1.1.2)).bind fun r31 => ((Zq53 N (r28.1.1.1, r28.1.1.2)).bind fun r32 => (br (!r31.1.2.1) (some ((false, ()), ())) ((br (!r32.1.2.1) (some ((false, ()), ())) (((Zq35 N (r31.1.1.1, r31.1.1.2) (r32.1.1.1, r32.1.1.2)).bind fun r33 => (br (!r33.1.1) (some ((false, ()), ())) (Zq30_l2 N (fun x6 => some ((x6, ()), ())) (fun (_ : Unit) => some ((true, ()), ())) N r27.1.2.1 r27.1.2.2.1 0 r31.1.1.1 r31.1.1.2))))))))))))))))))))) = (some ((true, ()), ()) : Option ((Bool × Unit) × Unit)) := by
  have hN : 1048577 ≤ N := by omega
  obtain ⟨f, v, bit, d1, d2⟩ := DrawFix_ok (N := N) hco hN
  obtain ⟨hl, hc⟩ := lists_le d2
  rw [d1, bind_some']
  simp only [show ((f.1, f.2) : Int × List (List Int)) = f from rfl]
  obtain ⟨s1, s2⟩ := fixR_small (f := f) (v := v) (bit := bit) hc
  rw [Zq52_eq hl hc hN, Zq3_eq hl hc hN, bind_some', bind_some']
  simp only [beq_self_eq_true, Bool.not_true, br_f]
  rw [ine_f rfl, br_f, rTable_eq (by omega) s2 hN, bind_some', decide_eq_true rfl]
  simp only [Bool.not_true, br_f]
  by_cases h : fixOk f v bit
  · have e : fixR f v bit = ((f.1, f.2 ++ [[if bit = 1 then v + 1 else -1 - v]]), true) := by unfold fixR; rw [if_pos h]
    rw [e] at s1 s2
    rw [e]
    simp only at s1 s2
    simp only [Bool.not_true, br_f]
    have hg := fix_good h
    obtain ⟨g0, g1, g2⟩ := FlipSpace_both hNe (f := (f.1, f.2 ++ [[if bit = 1 then v + 1 else -1 - v]])) (by simp only; omega) s2
    have hv : flipV (f.1, f.2 ++ [[if bit = 1 then v + 1 else -1 - v]]) = ((solsL (f.1, f.2 ++ [[if bit = 1 then v + 1 else -1 - v]]), stepsL isCh (solsL (f.1, f.2 ++ [[if bit = 1 then v + 1 else -1 - v]]))), true) := by unfold flipV; rw [if_pos hg]
    rw [hv] at g0 g1 g2
    rw [g2, g1, bind_some', bind_some']
    simp only [Bool.not_true, br_f]
    rw [rSpace_self g0 hN, bind_some']
    simp only [Bool.not_true, br_f]
    have hb := fun x => fix_bit h (x := x)
    have hsm := sols_small hg
    generalize solsL (f.1, f.2 ++ [[if bit = 1 then v + 1 else -1 - v]]) = X at hb hsm
    have h0 := h.1.1
    have hv0 := h.2.1
    obtain ⟨w, rfl⟩ : ∃ w : Nat, v = w := ⟨v.toNat, by omega⟩
    have go : ∀ (d n K : Nat), n + d = X.length → d < K → Zq30_l2 N (fun x6 => some ((x6, ()), ())) (fun (_ : Unit) => some ((true, ()), ())) K (w : Int) bit (n : Int) X (stepsL isCh X) = (some ((true, ()), ()) : Option ((Bool × Unit) × Unit)) := by
      intro d
      induction d with
      | zero =>
        intro n K hd hK
        obtain ⟨K, rfl⟩ := succ_of hK
        simp only [Zq30_l2, ilt_lenf (show ¬ n < X.length by omega), br_f]
      | succ d ih =>
        intro n K hd hK
        obtain ⟨K, rfl⟩ := succ_of hK
        have hn : n < X.length := by omega
        obtain ⟨q1, q2⟩ := hb X[n] (List.getElem_mem hn)
        simp only [Zq30_l2, ilt_len hn, br_t, inb_n hn, chk_t]
        rw [rdL_n hn, inb_n (show w < (X[n]).length by omega), chk_t, q2, ine_f rfl, br_f, wrap_succ (by omega)]
        exact ih (n + 1) K (by omega) (by omega)
    exact go X.length 0 N (by omega) (by omega)
  · have e : fixR f v bit = ((0, []), false) := by unfold fixR; rw [if_neg h]
    rw [e]
    rfl
theorem DrawForm_ok {N : Nat} {code : List Int} (hco : codeOk code) (hN : 1048577 ≤ N) : ∃ (n : Int) (ss : List (List Int)), Zq49 N code = some ((n, ss, ()), ()) ∧ ss.length ≤ 20 ∧ ∀ s ∈ ss, s.length ≤ 20 := by
  unfold Zq49
  obtain ⟨vars, c1, a1, a2, a3⟩ := among_ok (N := N) hco cur0 (by omega) (l := [3, 2, 4, 1, 0, 6, 7, (-1)]) (by simp)
  rw [a1, bind_some']
  simp only []
  obtain ⟨n, c2, b1, b2, b3⟩ := among_ok (N := N) hco a2 (by omega) (l := [3, 5, 1, 0, 8]) (by simp)
  rw [b1, bind_some']
  simp only []
  have hv : -1 ≤ vars ∧ vars ≤ 7 := by simp at a3; omega
  obtain ⟨d, rfl, hd⟩ : ∃ d : Nat, n = (d : Int) ∧ d ≤ 8 := ⟨n.toNat, by simp at b3; omega, by simp at b3; omega⟩
  have row : ∀ {R : Type} (k0 : Int → Int → ((List Int) × (Int × Int)) → (List (List Int)) → (List Int) → Option R) (x : Int) (o3 : List (List Int)) (d : Nat) (v : Int) (K k : Nat) (c : List Int × (Int × Int)) (o : List Int), 0 ≤ v → vars ≤ v + (d : Int) → d < K → CurOk code k c → k + 4 * d ≤ 90000 → o.length + d ≤ 1000 →
      ∃ c' o', Zq49_l0_0 N k0 K vars x v c o3 o = k0 vars x c' o3 o' ∧ CurOk code (k + 4 * d) c' ∧ o'.length ≤ o.length + d := by
    intro R k0 x o3 d
    induction d with
    | zero =>
      intro v K k c o h0 hd hK hc hk ho
      obtain ⟨K, rfl⟩ := succ_of hK
      simp only [Zq49_l0_0]
      rw [ilt_f (by omega), br_f]
      exact ⟨c, o, rfl, cur_mono hc (by omega), by omega⟩
    | succ d ih =>
      intro v K k c o h0 hd hK hc hk ho
      obtain ⟨K, rfl⟩ := succ_of hK
      simp only [Zq49_l0_0]
      by_cases h : v < vars
      · rw [ilt_t h, br_t]
        obtain ⟨y, c2, b1, b2, _⟩ := pick_ok (N := N) hco hc (by omega) 2
        rw [b1, bind_some']
        simp only []
        rw [room_ok (by simp; omega), chk_t, wrap_ok (by omega) (by omega)]
        obtain ⟨c', o', e1, e2, e3⟩ := ih (v + 1) K _ c2 (tApp o [y]) (by omega) (by omega) (by omega) b2 (by omega) (by simp [tApp_d]; omega)
        refine ⟨c', o', e1, cur_mono e2 (by omega), ?_⟩
        simp [tApp_d] at e3
        omega
      · rw [ilt_f h, br_f]
        exact ⟨c, o, rfl, cur_mono hc (by omega), by omega⟩
  have go : ∀ (d K k : Nat) (c : List Int × (Int × Int)) (o : List (List Int)), CurOk code k c → k + 50 * d ≤ 10000 → o.length + d ≤ 8 → d < K → (∀ x ∈ o, x.length ≤ 20) →
      ∃ (n : Int) (ss : List (List Int)), Zq49_l0 N (fun vars o o1 => ((Zq60 N o 16).bind fun r2 =>
        (br r2.1.1
          (((Zq57 N r2.2.1 [0, 2]).bind fun r3 =>
            (chk (room o1 [[r3.1.1]])
              (some ((vars, (tApp o1 [[r3.1.1]]), ()), ())))))
          (some ((vars, o1, ()), ()))))) K vars (d : Int) c o = some ((n, ss, ()), ()) ∧ ss.length ≤ 20 ∧ ∀ s ∈ ss, s.length ≤ 20 := by
    intro d
    induction d with
    | zero =>
      intro K k c o hc hk ho hK hr
      obtain ⟨K, rfl⟩ := succ_of hK
      simp only [Zq49_l0]
      rw [ilt_f (by omega), br_f]
      obtain ⟨b, c2, b1, b2⟩ := one_ok (N := N) hco hc (by omega) 16
      rw [b1, bind_some']
      simp only []
      cases b with
      | true =>
        obtain ⟨x, c3, e1, e2, _⟩ := among_ok (N := N) hco b2 (by omega) (l := [0, 2]) (by simp)
        rw [br_t, e1, bind_some', room_ok (by simp; omega), chk_t]
        refine ⟨_, _, rfl, by simp [tApp_d]; omega, fun s hs => ?_⟩
        rw [tApp_d] at hs
        rcases List.mem_append.1 hs with hs | hs
        · exact hr s hs
        · rw [List.mem_singleton.1 hs]; simp
      | false =>
        rw [br_f]
        exact ⟨_, _, rfl, by omega, hr⟩
    | succ d ih =>
      intro K k c o hc hk ho hK hr
      obtain ⟨K, rfl⟩ := succ_of hK
      simp only [Zq49_l0]
      rw [ilt_t (by omega), br_t]
      obtain ⟨c', o', e1, e2, e3⟩ := row (fun vars1 n1 o2 o3 o4 => (chk (room o3 [o4])
        (Zq49_l0 N (fun vars o o1 => ((Zq60 N o 16).bind fun r2 =>
        (br r2.1.1
          (((Zq57 N r2.2.1 [0, 2]).bind fun r3 =>
            (chk (room o1 [[r3.1.1]])
              (some ((vars, (tApp o1 [[r3.1.1]]), ()), ())))))
          (some ((vars, o1, ()), ()))))) K vars1 (IntKind.i64.wrap (n1 - 1)) o2 (tApp o3 [o4])))) ((d + 1 : Nat) : Int) o 7 0 N k c [] (by omega) (by omega) (by omega) hc (by omega) (by simp)
      rw [e1, room_ok (by simp; omega), chk_t, wrap_ok (by omega) (by omega), show ((d + 1 : Nat) : Int) - 1 = (d : Int) by omega]
      refine ih K _ c' _ e2 (by omega) (by simp [tApp_d]; omega) (by omega) fun x hx => ?_
      rw [tApp_d] at hx
      rcases List.mem_append.1 hx with hx | hx
      · exact hr x hx
      · rw [List.mem_singleton.1 hx]
        simp at e3
        omega
  exact go d N _ c2 [] b2 (by omega) (by simp; omega) (by omega) (by simp)
theorem clo_form {N : Nat} (hNe : N = 1048577) {c : List Int} (hco : codeOk c) :
    ((Zq49 N c).bind fun r13 => ((Zq5 N r13.1.1 r13.1.2.1).bind fun r14 => ((Zq54 N r13.1.1 r13.1.2.1).bind fun r15 => (br (! (r14.1.2.1 == r15.1.2.1)) (some ((false, ()), ())) ((br (ine r14.1.1.1 r15.1.1.1) (some ((false, ()), ())) (((Zq36 N r14.1.1.2 r15.1.1.2).bind fun r16 => (br (!r16.1.1) (some ((false, ()), ())) ((br r14.1.2.1 (((Zq4 N (r14.1.1.1, r14.1.1.2)).bind fun r17 => ((Zq53 N (r14.1.1.1, r14.1.1.2)).bind fun r18 => (br (!r17.1.2.1) (some ((false, ()), ())) ((br (!r18.1.2.1) (some ((false, ()), ())) (((Zq35 N (r17.1.1.1, r17.1.1.2) (r18.1.1.1, r18.1.1.2)).bind fun r19 => (br (!r19.1.1) (some ((false, ()), ())) (Zq30_l0 N (fun x => some ((x, ()), ())) (fun x1 x2 o o1 => Zq30_l1 N (fun x3 => some ((x3, ()), ())) (fun x4 => ((Zq48 N x4).bind fun r20 => ((Zq3 N (r20.1.1.1, r20.1.1.2) r20.1.2.1 r20.1.2.2.1).bind fun r21 => ((Zq52 N (r20.1.1.1, r20.1.1.2) r20.1.2.1 r20.1.2.2.1).bind fun r22 => (br (! (r21.1.2.1 == r22.1.2.1)) (some ((false, ()), ())) ((br (ine r21.1.1.1 r22.1.1.1) (some ((false, ()), ())) (((Zq36 N r21.1.1.2 r22.1.1.2).bind fun r23 => (br (!r23.1.1) (some ((false, ()), ())) ((br (!r21.1.2.1) (some ((true, ()), ())) (((Zq4 N (r21.1.1.1, r21.1.1.2)).bind fun r24 => ((Zq53 N (r21.1.1.1, r21.1.1.2)).bind fun r25 => (br (!r24.1.2.1) (some ((false, ()), ())) ((br (!r25.1.2.1) (some ((false, ()), ())) (((Zq35 N (r24.1.1.1, r24.1.1.2) (r25.1.1.1, r25.1.1.2)).bind fun r26 => (br (!r26.1.1) (some ((false, ()), ())) (Zq30_l2 N (fun x5 => some ((x5, ()), ())) (fun (_ : Unit) => some ((true, ()), ())) N r20.1.2.1 r20.1.2.2.1 0 r24.1.1.1 r24.1.1.2)))))))))))))))))))))) N x1 x2 0 o o1) N c r13.1.2.1 0 r17.1.1.1 r17.1.1.2)))))))))) (((Zq48 N c).bind fun r27 => ((Zq3 N (r27.1.1.1, r27.1.1.2) r27.1.2.1 r27.1.2.2.1).bind fun r28 => ((Zq52 N (r27.1.1.1, r27.1.1.2) r27.1.2.1 r27.1.2.2.1).bind fun r29 => (br (! (r28.1.2.1 == r29.1.2.1)) (some ((false, ()), ())) ((br (ine r28.1.1.1 r29.1.1.1) (some ((false, ()), ())) (((Zq36 N r28.1.1.2 r29.1.1.2).bind fun r30 => (br (!r30.1.1) (some ((false, ()), ())) ((br (!r28.1.2.1) (some ((true, ()), ())) (((Zq4 N (r28.1.1.1, r28.1.1.2)).bind fun r31 => ((Zq53 N (r28.1.1.1, r28.1.1.2)).bind fun r32 => (br (!r31.1.2.1) (some ((false, ()), ())) ((br (!r32.1.2.1) (some ((false, ()), ())) (((Zq35 N (r31.1.1.1, r31.1.1.2) (r32.1.1.1, r32.1.1.2)).bind fun r33 => (br (!r33.1.1) (some ((false, ()), ())) (Zq30_l2 N (fun x6 => some ((x6, ()), ())) (fun (_ : Unit) => some ((true, ()), ())) N r27.1.2.1 r27.1.2.2.1 0 r31.1.1.1 r31.1.1.2))))))))))))))))))))))))))))))))) = (some ((true, ()), ()) : Option ((Bool × Unit) × Unit)) := by
  have hN : 1048577 ≤ N := by omega
  have hfix := clo_fix hNe hco
  obtain ⟨n, ss, d1, d2, d3⟩ := DrawForm_ok (N := N) hco hN
  have hx : ss.length ≤ 1048576 := by omega
  have hs : ∀ s ∈ ss, s.length ≤ 1048576 := fun s h => by have := d3 s h; omega
  rw [d1, bind_some']
  simp only []
  obtain ⟨s1, s2⟩ := formV_small n hx hs
  rw [Zq54_eq hNe hx hs, Zq5_eq hNe hx hs, bind_some', bind_some']
  simp only [beq_self_eq_true, Bool.not_true, br_f]
  rw [ine_f rfl, br_f, rTable_eq (by omega) s2 hN, bind_some', decide_eq_true rfl]
  simp only [Bool.not_true, br_f]
  by_cases h : formOk n ss
  · have e : formV n ss = ((n, formR n.toNat ss), true) := by unfold formV; rw [if_pos h]
    rw [e] at s1 s2
    rw [e]
    simp only at s1 s2
    simp only [br_t]
    have h0 := h.1
    obtain ⟨m, rfl⟩ : ∃ m : Nat, n = m := ⟨n.toNat, by omega⟩
    simp only [Int.toNat_natCast] at s1 s2 ⊢
    have hm : m ≤ 6 := by omega
    have hg := formR_good hm ss
    obtain ⟨g0, g1, g2⟩ := FlipSpace_both hNe (f := ((m : Int), formR m ss)) (by simp only; omega) s2
    have hv : flipV ((m : Int), formR m ss) = ((solsL ((m : Int), formR m ss), stepsL isCh (solsL ((m : Int), formR m ss))), true) := by unfold flipV; rw [if_pos hg]
    rw [hv] at g0 g1 g2
    rw [g2, g1, bind_some', bind_some']
    simp only [Bool.not_true, br_f]
    rw [rSpace_self g0 hN, bind_some']
    simp only [Bool.not_true, br_f]
    have hsm := sols_small hg
    have hmem : ∀ x, x ∈ solsL ((m : Int), formR m ss) ↔ x ∈ allB m ∧ x ∈ ss := fun x => by
      unfold solsL
      simp only [Int.toNat_natCast]
      rw [List.mem_filter, decide_eq_true_eq]
      exact and_congr_right fun hx => form_solves hm hx
    have hss : ∀ s ∈ ss, s ∈ solsL ((m : Int), formR m ss) := fun s hs' => by
      refine (hmem s).2 ⟨?_, hs'⟩
      have q := h.2 s hs'
      rw [Bool.and_eq_true, decide_eq_true_iff] at q
      have q2 : s.length = m := by omega
      rw [← q2]
      refine mem_allB (fun z hz => ?_) (by omega)
      have := List.all_eq_true.1 q.1 z hz
      simp only [isBit, decide_eq_true_eq] at this
      omega
    have hxl : ∀ x ∈ solsL ((m : Int), formR m ss), x.length ≤ 1048576 := fun x hx => by
      have := allB_row ((hmem x).1 hx).1
      omega
    have hin : ∀ x ∈ solsL ((m : Int), formR m ss), x ∈ ss := fun x hx => ((hmem x).1 hx).2
    generalize solsL ((m : Int), formR m ss) = X at hsm hss hxl hin ⊢
    have go1 : ∀ {k0 : Bool → Option ((Bool × Unit) × Unit)} {k1 : List Int → Option ((Bool × Unit) × Unit)} (d n K : Nat), n + d = ss.length → d < K → Zq30_l1 N k0 k1 K c ss (n : Int) X (stepsL isCh X) = k1 c := by
      intro k0 k1 d
      induction d with
      | zero =>
        intro n K hd hK
        obtain ⟨K, rfl⟩ := succ_of hK
        simp only [Zq30_l1, ilt_lenf (show ¬ n < ss.length by omega), br_f]
      | succ d ih =>
        intro n K hd hK
        obtain ⟨K, rfl⟩ := succ_of hK
        have hn : n < ss.length := by omega
        obtain ⟨i, i0, i1⟩ := rIndex_in (N := N) (L := X) (x := ss[n]) (by omega) hxl hN (hss _ (List.getElem_mem hn))
        simp only [Zq30_l1, ilt_len hn, br_t, inb_n hn, chk_t]
        rw [rdL_n hn, i1, bind_some', ilt_f (show ¬ ((i, ()), ()).1.1 < 0 by simp only []; omega), br_f, wrap_succ (by omega)]
        exact ih (n + 1) K (by omega) (by omega)
    have go0 : ∀ {k0 : Bool → Option ((Bool × Unit) × Unit)} {k1 : List Int → List (List Int) → List (List Int) → List (Int × Int) → Option ((Bool × Unit) × Unit)} (d n K : Nat), n + d = X.length → d < K → Zq30_l0 N k0 k1 K c ss (n : Int) X (stepsL isCh X) = k1 c ss X (stepsL isCh X) := by
      intro k0 k1 d
      induction d with
      | zero =>
        intro n K hd hK
        obtain ⟨K, rfl⟩ := succ_of hK
        simp only [Zq30_l0, ilt_lenf (show ¬ n < X.length by omega), br_f]
      | succ d ih =>
        intro n K hd hK
        obtain ⟨K, rfl⟩ := succ_of hK
        have hn : n < X.length := by omega
        obtain ⟨i, i0, i1⟩ := rIndex_in (N := N) (L := ss) (x := X[n]) hx hs hN (hin _ (List.getElem_mem hn))
        simp only [Zq30_l0, ilt_len hn, br_t, inb_n hn, chk_t]
        rw [rdL_n hn, i1, bind_some', ilt_f (show ¬ ((i, ()), ()).1.1 < 0 by simp only []; omega), br_f, wrap_succ (by omega)]
        exact ih (n + 1) K (by omega) (by omega)
    refine (go0 X.length 0 N (by omega) (by omega)).trans ?_
    refine (go1 ss.length 0 N (by omega) (by omega)).trans ?_
    exact hfix
  · have e : formV n ss = ((0, []), false) := by unfold formV; rw [if_neg h]
    rw [e]
    exact hfix
theorem DrawNeg_ok {N : Nat} {code : List Int} (hco : codeOk code) (hN : 1048577 ≤ N) : ∃ (f : Int × List (List Int)) (vs : List Int), Zq51 N code = some (((f.1, f.2), vs, ()), ()) ∧ listsOk 200 8 f.2 ∧ vs.length ≤ 20 := by
  unfold Zq51
  obtain ⟨f, c1, a1, a2, a3⟩ := formula_ok (N := N) hco hN cur0 (by omega)
  rw [a1, bind_some']
  simp only []
  rw [l1Least_eq, bind_some', l1Most_eq, bind_some']
  simp only []
  obtain ⟨x, c2, b1, b2, b3, b4, b5⟩ := pick_ok (N := N) hco a2 (by omega) 128
  have b5 := b5 (by omega)
  rw [b1, bind_some']
  simp only []
  obtain ⟨y, c3, d1, d2, d3⟩ := among_ok (N := N) hco b2 (by omega) (l := [127, 127, x]) (by simp)
  have hy : 0 ≤ y ∧ y < 128 := by simp at d3; omega
  obtain ⟨a, rfl⟩ : ∃ a : Nat, y = (a : Int) := ⟨y.toNat, by omega⟩
  rw [d1, bind_some']
  simp only []
  obtain ⟨m, hm, hm8⟩ : ∃ m : Nat, (if 0 < (if f.1 < 7 then f.1 else 7) then (if f.1 < 7 then f.1 else 7) else 0) = (m : Int) ∧ m ≤ 7 := by
    refine ⟨(if 0 < (if f.1 < 7 then f.1 else 7) then (if f.1 < 7 then f.1 else 7) else 0).toNat, ?_, ?_⟩ <;> split <;> split <;> omega
  rw [hm, l2Bits_set (by omega) (by omega) hN, bind_some']
  simp only []
  have hl := setOf_len m a
  obtain ⟨b, c4, e1, e2⟩ := one_ok (N := N) hco d2 (by omega) 20
  rw [e1, bind_some']
  simp only []
  cases b with
  | true =>
    obtain ⟨z, c5, f1, f2, _⟩ := among_ok (N := N) hco e2 (by omega) (l := [(-1), 0, 6]) (by simp)
    rw [br_t, f1, bind_some', room_ok (by simp; omega), chk_t]
    exact ⟨f, _, rfl, a3, by simp [tApp_d]; omega⟩
  | false =>
    rw [br_f]
    exact ⟨f, _, rfl, a3, by omega⟩
theorem clo_neg {N : Nat} (hNe : N = 1048577) {c : List Int} (hco : codeOk c) :
    ((Zq51 N c).bind fun r5 => ((Zq14 N (r5.1.1.1, r5.1.1.2) r5.1.2.1).bind fun r6 => ((Zq56 N (r5.1.1.1, r5.1.1.2) r5.1.2.1).bind fun r7 => (br (! (r6.1.2.1 == r7.1.2.1)) (some ((false, ()), ())) ((br (ine r6.1.1.1 r7.1.1.1) (some ((false, ()), ())) (((Zq36 N r6.1.1.2 r7.1.1.2).bind fun r8 => (br (!r8.1.1) (some ((false, ()), ())) ((shr (((Zq49 N c).bind fun r13 => ((Zq5 N r13.1.1 r13.1.2.1).bind fun r14 => ((Zq54 N r13.1.1 r13.1.2.1).bind fun r15 => (br (! (r14.1.2.1 == r15.1.2.1)) (some ((false, ()), ())) ((br (ine r14.1.1.1 r15.1.1.1) (some ((false, ()), ())) (((Zq36 N r14.1.1.2 r15.1.1.2).bind fun r16 => (br (!r16.1.1) (some ((false, ()), ())) ((br r14.1.2.1 (((Zq4 N (r14.1.1.1, r14.1.1.2)).bind fun r17 => ((Zq53 N (r14.1.1.1, r14.1.1.2)).bind fun r18 => (br (!r17.1.2.1) (some ((false, ()), ())) ((br (!r18.1.2.1) (some ((false, ()), ())) (((Zq35 N (r17.1.1.1, r17.1.1.2) (r18.1.1.1, r18.1.1.2)).bind fun r19 => (br (!r19.1.1) (some ((false, ()), ())) (Zq30_l0 N (fun x => some ((x, ()), ())) (fun x1 x2 o o1 => Zq30_l1 N (fun x3 => some ((x3, ()), ())) (fun x4 => ((Zq48 N x4).bind fun r20 => ((Zq3 N (r20.1.1.1, r20.1.1.2) r20.1.2.1 r20.1.2.2.1).bind fun r21 => ((Zq52 N (r20.1.1.1, r20.1.1.2) r20.1.2.1 r20.1.2.2.1).bind fun r22 => (br (! (r21.1.2.1 == r22.1.2.1)) (some ((false, ()), ())) ((br (ine r21.1.1.1 r22.1.1.1) (some ((false, ()), ())) (((Zq36 N r21.1.1.2 r22.1.1.2).bind fun r23 => (br (!r23.1.1) (some ((false, ()), ())) ((br (!r21.1.2.1) (some ((true, ()), ())) (((Zq4 N (r21.1.1.1, r21.1.1.2)).bind fun r24 => ((Zq53 N (r21.1.1.1, r21.1.1.2)).bind fun r25 => (br (!r24.1.2.1) (some ((false, ()), ())) ((br (!r25.1.2.1) (some ((false, ()), ())) (((Zq35 N (r24.1.1.1, r24.1.1.2) (r25.1.1.1, r25.1.1.2)).bind fun r26 => (br (!r26.1.1) (some ((false, ()), ())) (Zq30_l2 N (fun x5 => some ((x5, ()), ())) (fun (_ : Unit) => some ((true, ()), ())) N r20.1.2.1 r20.1.2.2.1 0 r24.1.1.1 r24.1.1.2)))))))))))))))))))))) N x1 x2 0 o o1) N c r13.1.2.1 0 r17.1.1.1 r17.1.1.2)))))))))) (((Zq48 N c).bind fun r27 => ((Zq3 N (r27.1.1.1, r27.1.1.2) r27.1.2.1 r27.1.2.2.1).bind fun r28 => ((Zq52 N (r27.1.1.1, r27.1.1.2) r27.1.2.1 r27.1.2.2.1).bind fun r29 => (br (! (r28.1.2.1 == r29.1.2.1)) (some ((false, ()), ())) ((br (ine r28.1.1.1 r29.1.1.1) (some ((false, ()), ())) (((Zq36 N r28.1.1.2 r29.1.1.2).bind fun r30 => (br (!r30.1.1) (some ((false, ()), ())) ((br (!r28.1.2.1) (some ((true, ()), ())) (((Zq4 N (r28.1.1.1, r28.1.1.2)).bind fun r31 => ((Zq53 N (r28.1.1.1, r28.1.1.2)).bind fun r32 => (br (!r31.1.2.1) (some ((false, ()), ())) ((br (!r32.1.2.1) (some ((false, ()), ())) (((Zq35 N (r31.1.1.1, r31.1.1.2) (r32.1.1.1, r32.1.1.2)).bind fun r33 => (br (!r33.1.1) (some ((false, ()), ())) (Zq30_l2 N (fun x6 => some ((x6, ()), ())) (fun (_ : Unit) => some ((true, ()), ())) N r27.1.2.1 r27.1.2.2.1 0 r31.1.1.1 r31.1.1.2)))))))))))))))))))))))))))))))))) (fun jj4 => (br r6.1.2.1 (((Zq14 N (r6.1.1.1, r6.1.1.2) r5.1.2.1).bind fun r9 => (br (!r9.1.2.1) (some ((false, ()), ())) (((Zq36 N r9.1.1.2 r5.1.1.2).bind fun r10 => (br (!r10.1.1) (some ((false, ()), ())) ((br (ieq (tLen r5.1.2.1) r5.1.1.1) (((Zq2 N (r5.1.1.1, r5.1.1.2)).bind fun r11 => ((Zq2 N (r6.1.1.1, r6.1.1.2)).bind fun r12 => (br (!r11.1.2.2.2.1) (some ((false, ()), ())) ((br (!r12.1.2.2.2.1) (some ((false, ()), ())) ((br (! (r11.1.2.1 == r12.1.2.2.1)) (some ((false, ()), ())) ((br (! (r11.1.2.2.1 == r12.1.2.1)) (some ((false, ()), ())) jj4)))))))))) jj4)))))))) jj4))))))))))))) = (some ((true, ()), ()) : Option ((Bool × Unit) × Unit)) := by
  have hN : 1048577 ≤ N := by omega
  rw [clo_form hNe hco]
  simp only [shr]
  obtain ⟨g, vs, d1, d2, d3⟩ := DrawNeg_ok (N := N) hco hN
  obtain ⟨hl, hc⟩ := lists_le d2
  have hvs : vs.length ≤ 1048576 := by omega
  rw [d1, bind_some']
  simp only [show ((g.1, g.2) : Int × List (List Int)) = g from rfl]
  obtain ⟨s1, s2⟩ := negF2_small (vs := vs) hl hc
  rw [Zq56_eq hl hc hvs hN, Zq14_eq hl hc hvs hN, bind_some', bind_some']
  simp only [beq_self_eq_true, Bool.not_true, br_f]
  rw [ine_f rfl, br_f, rTable_eq s1 s2 hN, bind_some', decide_eq_true rfl]
  simp only [Bool.not_true, br_f]
  by_cases h : goodF g ∧ rising 0 (g.1 - 1) vs
  · have e : negF2 g vs = ((g.1, g.2.map (negC vs)), true) := by unfold negF2; rw [if_pos h]
    rw [e] at s1 s2
    rw [e]
    simp only at s1 s2
    simp only [br_t]
    have hg2 := neg_good h.1 vs
    have e2 : negF2 (g.1, g.2.map (negC vs)) vs = ((g.1, g.2), true) := by
      unfold negF2
      rw [if_pos ⟨hg2, h.2⟩]
      simp only [neg_back h.1 vs]
    rw [Zq14_eq (f := (g.1, g.2.map (negC vs))) s1 s2 hvs hN, e2, bind_some']
    simp only [Bool.not_true, br_f]
    rw [rTable_eq hl hc hN, bind_some', decide_eq_true rfl]
    simp only [Bool.not_true, br_f]
    rw [tLen_n]
    by_cases hlen : (vs.length : Int) = g.1
    · rw [ieq_t hlen, br_t, Class_one hl hc hN, Class_one (f := (g.1, g.2.map (negC vs))) s1 s2 hN, bind_some', bind_some']
      have c1 : (classV g).2 = true := by unfold classV; rw [if_pos h.1]
      have c2 : (classV (g.1, g.2.map (negC vs))).2 = true := by unfold classV; rw [if_pos hg2]
      have c3 := neg_class h.1 h.2 hlen
      simp only [c1, c2, c3, beq_self_eq_true, Bool.not_true, br_f]
    · rw [ieq_f hlen, br_f]
  · have e : negF2 g vs = ((0, []), false) := by unfold negF2; rw [if_neg h]
    rw [e]
    rfl
theorem DrawClosed_ok {N : Nat} {code : List Int} (hco : codeOk code) (hN : 1048577 ≤ N) : ∃ (f : Int × List (List Int)) (op : Int), Zq50 N code = some (((f.1, f.2), op, ()), ()) ∧ listsOk 200 8 f.2 := by
  unfold Zq50
  obtain ⟨f, c1, a1, a2, a3⟩ := formula_ok (N := N) hco hN cur0 (by omega)
  rw [a1, bind_some']
  simp only [show ((f.1, f.2) : Int × List (List Int)) = f from rfl, show ((c1.1, (c1.2.1, c1.2.2)) : List Int × (Int × Int)) = c1 from rfl]
  obtain ⟨hl, hc⟩ := lists_le a3
  obtain ⟨z, c4, e1, e2, _⟩ := among_ok (N := N) hco a2 (by omega) (l := [1, 2, 3, 4, 1, 2, 3, 4, 0, 5]) (by simp)
  rw [Zq75_eq hl hc hN, bind_some', e1]
  simp only [bind_some']
  by_cases hg : goodF f
  · rw [decide_eq_true hg, br_t]
    by_cases h5 : 5 < f.1
    · rw [ilt_t h5, br_t]
      exact ⟨(6, f.2), z, rfl, a3⟩
    · rw [ilt_f h5, br_f]
      exact ⟨f, z, rfl, a3⟩
  · rw [decide_eq_false hg, br_f]
    exact ⟨f, z, rfl, a3⟩
theorem Closures_pure {N : Nat} (hNe : N = 1048577) {code : List Int} (hw : ∀ y ∈ code, (Lit.int .u8 y).wf = true) : Zq30 N code = some ((true, ()), ()) := by
  have hN : 1048577 ≤ N := by omega
  unfold Zq30 Zq31
  rw [bind_some']
  simp only []
  rw [tLen_n]
  by_cases hb : 65536 < code.length
  · rw [ilt_t (by omega), br_t]
  · rw [ilt_f (by omega), br_f]
    have hco := code_ok hw (by omega)
    rw [clo_neg hNe hco]
    simp only [shr]
    obtain ⟨f, op, d1, d2⟩ := DrawClosed_ok (N := N) hco hN
    obtain ⟨hl, hc⟩ := lists_le d2
    rw [d1, bind_some']
    simp only [show ((f.1, f.2) : Int × List (List Int)) = f from rfl]
    obtain ⟨c1, c2⟩ := Closed_both hNe (f := f) (op := op) hl hc
    rw [c1, c2, bind_some', bind_some']
    simp only [beq_self_eq_true, Bool.not_true, br_f]
    by_cases h : goodF f ∧ 1 ≤ op ∧ op ≤ 4
    · have e : (closedV f op).2 = true := by unfold closedV; rw [if_pos h]
      have e1 : (closedV f op).1 = true ↔ closedP f op := by unfold closedV; rw [if_pos h]; simp
      have c3 : (classV f).2 = true := by unfold classV; rw [if_pos h.1]
      have c4 : (classV f).1 = f.2.foldl classF (true, true, true) := by unfold classV; rw [if_pos h.1]
      rw [e, br_t, Class_one hl hc hN, bind_some']
      simp only [c3, c4, Bool.not_true, br_f]
      have k1 : op = 1 → (f.2.foldl classF (true, true, true)).1 = true → (closedV f op).1 = true := fun q1 q2 => e1.2 (q1 ▸ closed_two h.1 q2)
      have k2 : op = 2 → (f.2.foldl classF (true, true, true)).2.1 = true → (closedV f op).1 = true := fun q1 q2 => e1.2 (q1 ▸ closed_horn h.1 q2)
      have k3 : op = 3 → (f.2.foldl classF (true, true, true)).2.2 = true → (closedV f op).1 = true := fun q1 q2 => e1.2 (q1 ▸ closed_dual h.1 q2)
      have fin : ∀ (i : Int) (b : Bool) (y : Option ((Bool × Unit) × Unit)), (op = i → b = true → (closedV f op).1 = true) → y = some ((true, ()), ()) → br (ieq op i) (br b (br (!(closedV f op).1) (some ((false, ()), ())) y) y) y = some ((true, ()), ()) := by
        intro i b y k hy
        by_cases q : op = i
        · rw [ieq_t q, br_t]
          cases b with
          | true => rw [br_t, k q rfl]; exact hy
          | false => rw [br_f]; exact hy
        · rw [ieq_f q, br_f]; exact hy
      exact fin 1 _ _ k1 (fin 2 _ _ k2 (fin 3 _ _ k3 rfl))
    · have e : (closedV f op).2 = false := by unfold closedV; rw [if_neg h]
      rw [e, br_f]
theorem Closures_pureT : ∀ x : argsT (psOf [LU8]), WfA [LU8] x → ∃ k m, (Zq30_S k).f x = some ((true, ()), m) :=
  fun x h => ⟨1048577, (), Closures_pure rfl h.1.2⟩
end Go.Proofs.YtfilchmabmfmaaaGreat
