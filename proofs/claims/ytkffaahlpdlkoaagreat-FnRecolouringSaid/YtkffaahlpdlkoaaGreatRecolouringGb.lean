/- Statements on data alone. -/
import Derived.Test.YtkffaahlpdlkoaaGreatPvPure
import Derived.Test.YtkffaahlpdlkoaaGreatRecolouringGa
set_option linter.all false
set_option linter.all false
namespace Go.Proofs.YtkffaahlpdlkoaaGreat
open Go Go.PV Classical
theorem Zq28_eq {N : Nat} {g : Int × List (Int × Int)} {k : Int} {cs : List Int} (hx : g.2.length ≤ 1048576) (hcs : cs.length ≤ 1048576) (hN : 1048577 ≤ N) : Zq28 N g k cs = some (((stillR g k cs).1, (stillR g k cs).2, ()), ()) := by
  unfold Zq28 stillR Zq36
  simp only [isColourCase_eq hx hN, bind_some']
  by_cases h1 : colCase g k
  · rw [decide_eq_true h1, br_t, ContainsFunc_LLI_LI_eq (g := fun c => !decide (proper g k c)) (fun c h => by
      simp only [List.mem_singleton] at h
      subst h
      have := impl_isColouring_eq h1 hx hcs hN
      simp only [Zq37, this, bind_some']) (by simp) (by simp; omega)]
    simp only [bind_some']
    by_cases h2 : proper g k cs
    · rw [show ([cs].any fun c => !decide (proper g k c)) = false by simp [h2], Bool.not_false, Bool.not_true, br_f, if_pos ⟨h1, h2⟩]
      obtain ⟨m0, es⟩ := g
      have hm := h1.1.1
      have hk := h1.2
      simp only at hx hm
      obtain ⟨m, rfl⟩ : ∃ m : Nat, m0 = m := ⟨m0.toNat, by omega⟩
      obtain ⟨kn, rfl⟩ : ∃ kn : Nat, k = kn := ⟨k.toNat, by omega⟩
      have hl := h2.1
      have hcol : ∀ i : Nat, i < cs.length → 0 ≤ rdI cs i ∧ rdI cs i < kn := fun i hi => by
        have := h2.2.1 _ (List.getElem_mem hi)
        rw [rdI_n hi]
        omega
      simp only at hl
      rw [Int.toNat_natCast]
      refine loop_iter (L := fun K n o => Zq28_l0 N (fun o => some ((o, true, ()), ())) K (kn : Int) cs (m : Int) n (m : Int) es o) (k := fun o => some ((o, true, ()), ())) (Inv := fun n o => o.length ≤ n) (step := fun n o => if stillAt (kn : Int) es cs n then o ++ [(n : Int)] else o) (fun K n s hn _ => ?_) (fun K n s hn hs => ?_) (fun n s hn h => ?_) (s := []) (m := m) (K := N) (by omega) (Nat.zero_le _)
      · simp only [Zq28_l0, ilt_nf hn, br_f]
      · have hn2 : n < cs.length := by omega
        have hnl := nbr_len m es n
        simp only [Zq28_l0, ilt_n hn, br_t, inb_n hn2, chk_t]
        rw [ile_t (hcol n hn2).1, chk_t, neighbors_eq h1.1 hx hN]
        simp only [bind_some', tLen_n (nbr m es n)]
        obtain ⟨a, h3, h4, h5⟩ := seen_eq (N := N) (fun kv2 colours2 x2 seen x3 x4 o3 o4 o5 => ((Zq31 N seen).bind fun r2 =>
          (br (ieq r2.1.1 kv2)
            ((chk (room o5 [x2])
              (Zq28_l0 N (fun o => some ((o, true, ()), ())) K kv2 colours2 x3 (IntKind.i64.wrap (x4 + 1)) o3 o4 (tApp o5 [x2]))))
            (Zq28_l0 N (fun o => some ((o, true, ()), ())) K kv2 colours2 x3 (IntKind.i64.wrap (x4 + 1)) o3 o4 o5)))) (kn := kn) (cs := cs) (nb := nbr m es n) (o5 := s) (x := n) (x2 := (n : Int)) (x3 := (m : Int)) (x4 := (n : Int)) (o3 := (m : Int)) (o4 := es) (by omega) (hcol n hn2) (fun y hy => by
            obtain ⟨i, hi, _, rfl⟩ := mem_nbr.1 hy
            exact ⟨by omega, hcol i (by omega)⟩) (by omega) hN
        obtain ⟨r, hr, hr2⟩ := pc32 (k := kn) (by omega) h3
        rw [h5]
        unfold Zq31 Zq54
        simp only [hr, bind_some']
        rw [room_ok (by simp; omega), chk_t, wrap_succ (by omega)]
        have hst : r = (kn : Int) ↔ stillAt (kn : Int) es cs n := by
          rw [hr2]
          refine ⟨fun h c hc => ?_, fun h c hc => (h4 c).2 ?_⟩
          · rcases (h4 c).1 (h c (by omega)) with h | ⟨y, hy, hyc⟩
            · exact .inl h
            · obtain ⟨i, _, hne, rfl⟩ := mem_nbr.1 hy
              exact .inr ⟨i, hne, hyc⟩
          · rcases h c (by omega) with h | ⟨y, hne, hyc⟩
            · exact .inl h
            · obtain ⟨_, b1, b2⟩ := near_in h1.1 hne
              simp only at b2
              refine .inr ⟨y, mem_nbr.2 ⟨y.toNat, by omega, ?_, by omega⟩, hyc⟩
              rw [show ((y.toNat : Nat) : Int) = y by omega]
              exact hne
        by_cases hc : stillAt (kn : Int) es cs n
        · rw [ieq_t (hst.2 hc), br_t, if_pos hc]
          rfl
        · rw [ieq_f (fun h => hc (hst.1 h)), br_f, if_neg hc]
      · by_cases hc : stillAt (kn : Int) es cs n
        · simp only [if_pos hc]; simp; omega
        · simp only [if_neg hc]; omega
    · rw [show ([cs].any fun c => !decide (proper g k c)) = true by simp [h2], Bool.not_true, Bool.not_false, br_t, if_neg (fun h => h2 h.2)]
  · rw [decide_eq_false h1, br_f]
    simp only [bind_some', Bool.not_false, br_t]
    rw [if_neg (fun h => h1 h.1)]
theorem wrap64 {n : Nat} (h : n < 18446744073709551616) : IntKind.u64.wrap (n : Int) = (n : Int) := by
  unfold IntKind.wrap
  simp only [IntKind.bits, IntKind.signed, Bool.false_and]
  have : (n : Int) % (2 ^ 64 : Int) = n := Int.emod_eq_of_lt (by omega) (by omega)
  rw [this]
  rfl
theorem ofInt64 {n : Nat} (h : n < 18446744073709551616) : (BitVec.ofInt 64 (n : Int)).toNat = n := by
  rw [BitVec.toNat_ofInt]
  omega
theorem orN {a b : Nat} (ha : a < 4294967296) (hb : b < 4294967296) : bitop .or .u64 (a : Int) (b : Int) = ((a ||| b : Nat) : Int) := by
  show IntKind.u64.wrap (((BitVec.ofInt 64 (a : Int) ||| BitVec.ofInt 64 (b : Int)).toNat : Nat) : Int) = _
  rw [BitVec.toNat_or, ofInt64 (by omega), ofInt64 (by omega)]
  have : a ||| b < 2 ^ 32 := Nat.or_lt_two_pow ha hb
  exact wrap64 (by omega)
theorem andN {a b : Nat} (ha : a < 4294967296) (hb : b < 4294967296) : bitop .and .u64 (a : Int) (b : Int) = ((a &&& b : Nat) : Int) := by
  show IntKind.u64.wrap (((BitVec.ofInt 64 (a : Int) &&& BitVec.ofInt 64 (b : Int)).toNat : Nat) : Int) = _
  rw [BitVec.toNat_and, ofInt64 (by omega), ofInt64 (by omega)]
  have : a &&& b < 2 ^ 32 := Nat.and_lt_two_pow _ hb
  exact wrap64 (by omega)
theorem shl8 : ∀ n : Nat, n < 9 → shlI .u64 1 (n : Int) = ((2 ^ n : Nat) : Int)
  | 0, _ => by kernel_rfl
  | 1, _ => by kernel_rfl
  | 2, _ => by kernel_rfl
  | 3, _ => by kernel_rfl
  | 4, _ => by kernel_rfl
  | 5, _ => by kernel_rfl
  | 6, _ => by kernel_rfl
  | 7, _ => by kernel_rfl
  | 8, _ => by kernel_rfl
  | n + 9, h => by omega
theorem bit8 {a c : Nat} (ha : a < 256) (hc : c < 8) : ieq (bitop .and .u64 (shrI .u64 (a : Int) (c : Int)) 1) 1 = a.testBit c := by
  have hk : ((List.range 256).all fun a => (List.range 8).all fun c => ieq (bitop .and .u64 (shrI .u64 (a : Int) (c : Int)) 1) 1 == a.testBit c) = true := by kernel_rfl
  exact eq_of_beq (List.all_eq_true.1 (List.all_eq_true.1 hk a (List.mem_range.2 ha)) c (List.mem_range.2 hc))
theorem bagOf_eq {N : Nat} {xs : List Int} (hx : ∀ y ∈ xs, 0 ≤ y ∧ y < 8) (hl : xs.length ≤ 1048576) (hN : 1048577 ≤ N) : ∃ a : Nat, Zq29 N xs = some (((a : Int), ()), ()) ∧ a < 256 ∧ ∀ c, a.testBit c = true ↔ (c : Int) ∈ xs := by
  have key := loop_list (xs := xs) (L := fun K n s => Zq29_l0 N (fun out => some ((out, ()), ())) K s xs (xs.length : Int) n) (k := fun s => some ((s, ()), ())) (fun (s : Int) y => bitop .or .u64 s (shlI .u64 1 y))
    (fun n s => ∃ a : Nat, s = a ∧ a < 256 ∧ ∀ c, a.testBit c = true ↔ (c : Int) ∈ xs.take n) (fun K n s hn _ => ?_) (fun K n s hn _ => ?_) (fun n s hn h => ?_) (s := 0) (K := N) (by omega) ⟨0, rfl, by omega, fun c => by simp⟩
  · obtain ⟨h1, a, h2, h3, h4⟩ := key
    refine ⟨a, ?_, h3, fun c => by rw [h4 c, List.take_length]⟩
    unfold Zq29
    rw [← h2, tLen_n]
    exact h1
  · simp only [Zq29_l0, ilt_nf hn, br_f]
  · have hy := hx _ (List.getElem_mem hn)
    simp only [Zq29_l0, ilt_n hn, br_t, inb_n hn, chk_t]
    rw [rdI_n hn, ile_t (by omega), chk_t, wrap_succ (by omega)]
  · obtain ⟨a, h2, h3, h4⟩ := h
    have hy := hx _ (List.getElem_mem hn)
    obtain ⟨ny, ey⟩ : ∃ q : Nat, xs[n] = q := ⟨xs[n].toNat, by omega⟩
    have hny : ny < 8 := by omega
    have hp : 2 ^ ny < 256 := Nat.pow_lt_pow_right (n := 8) (by omega) hny
    refine ⟨a ||| 2 ^ ny, ?_, Nat.or_lt_two_pow (n := 8) h3 hp, fun c => ?_⟩
    · rw [h2, ey, shl8 ny (by omega), orN (by omega) (by omega)]
    · rw [Nat.testBit_or, Bool.or_eq_true, h4 c, Nat.testBit_two_pow, decide_eq_true_eq, List.take_add_one, List.getElem?_eq_getElem hn]
      simp only [Option.toList_some, List.mem_append, List.mem_singleton]
      constructor
      · rintro (h | h)
        · exact .inl h
        · exact .inr (by rw [ey, h])
      · rintro (h | h)
        · exact .inl h
        · rw [ey] at h
          exact .inr (by omega)
theorem bagList_eq {N : Nat} {a : Nat} (ha : a < 256) (hN : 1048577 ≤ N) : Zq30 N (a : Int) = some ((((List.range' 0 8).filter fun c => decide (a.testBit c = true)).map (fun c : Nat => (c : Int)), ()), ()) := by
  unfold Zq30
  refine (loop_iter (L := fun K n o => Zq30_l0 N (fun o => some ((o, ()), ())) K (a : Int) n o) (k := fun o => some ((o, ()), ())) (Inv := fun n o => o.length ≤ n) (step := fun n o => if a.testBit n = true then o ++ [(n : Int)] else o) (fun K n s hn _ => ?_) (fun K n s hn hs => ?_) (fun n s hn h => ?_) (s := []) (m := 8) (K := N) (by omega) (Nat.zero_le _)).trans ?_
  · simp only [Zq30_l0]
    rw [ilt_f (by omega), br_f]
  · simp only [Zq30_l0]
    rw [ilt_t (by omega), br_t, ile_t (by omega), chk_t, bit8 ha hn, wrap_succ (by omega), room_ok (by simp; omega), chk_t, br_ite]
    by_cases h : a.testBit n = true
    · rw [if_pos h, if_pos h]
      rfl
    · rw [if_neg h, if_neg h]
  · by_cases hc : a.testBit n = true
    · rw [if_pos hc]; simp; omega
    · rw [if_neg hc]; omega
  · rw [iter_app]
    rfl
theorem l2Neighbors_eq {N : Nat} {m : Nat} {es : List (Int × Int)} {x : Int} (hm : m ≤ 8) (hx : es.length ≤ 1048576) (hN : 1048577 ≤ N) : Zq103 N ((m : Int), es) x = some ((nbr m es x, ()), ()) := by
  unfold Zq103
  refine (loop_iter (L := fun K n o => Zq103_l0 N (fun o => some ((o, ()), ())) K x n (m : Int) es o) (k := fun o => some ((o, ()), ())) (Inv := fun n o => o.length ≤ n) (step := fun n o => if nearG es x (n : Int) then o ++ [(n : Int)] else o) (fun K n s hn _ => ?_) (fun K n s hn hs => ?_) (fun n s hn h => ?_) (s := []) (m := m) (K := N) (by omega) (Nat.zero_le _)).trans ?_
  · simp only [Zq103_l0, ilt_nf hn, br_f]
  · simp only [Zq103_l0, ilt_n hn, br_t, l2Near_eq (g := ((m : Int), es)) hx hN, bind_some']
    rw [wrap_succ (by omega), room_ok (by simp; omega), chk_t]
    by_cases h : nearG es x (n : Int)
    · rw [decide_eq_true h, br_t, if_pos h]
      rfl
    · rw [if_neg h, decide_eq_false h, br_f]
  · by_cases hc : nearG es x (n : Int)
    · rw [if_pos hc]; simp; omega
    · rw [if_neg hc]; omega
  · rw [iter_app]
    rfl
theorem all8 : ∀ m : Nat, m ≤ 8 → IntKind.u64.wrap (shlI .u64 1 (m : Int) - 1) = ((2 ^ m - 1 : Nat) : Int)
  | 0, _ => by kernel_rfl
  | 1, _ => by kernel_rfl
  | 2, _ => by kernel_rfl
  | 3, _ => by kernel_rfl
  | 4, _ => by kernel_rfl
  | 5, _ => by kernel_rfl
  | 6, _ => by kernel_rfl
  | 7, _ => by kernel_rfl
  | 8, _ => by kernel_rfl
  | n + 9, h => by omega
inductive Rch (es : List (Int × Int)) (A : Int → Prop) (x : Int) : Int → Prop
  | base : Rch es A x x
  | step {y z : Int} : Rch es A x y → nearG es y z → A z → Rch es A x z
theorem nodup_le : ∀ {a b : List Int}, a.Nodup → (∀ x ∈ a, x ∈ b) → a.length ≤ b.length := by
  intro a
  induction a with
  | nil => intro b _ _; exact Nat.zero_le _
  | cons x a ih =>
    intro b hn hs
    obtain ⟨h1, h2⟩ := List.nodup_cons.1 hn
    have hx := hs x (List.mem_cons_self ..)
    have := ih (b := b.erase x) h2 fun y hy => (List.mem_erase_of_ne (fun (e : y = x) => h1 (e ▸ hy))).2 (hs y (List.mem_cons_of_mem _ hy))
    rw [List.length_erase_of_mem hx] at this
    have := List.length_pos_of_mem hx
    rw [List.length_cons]
    omega
def strict (xs : List Int) : Prop := xs.Pairwise (· < ·)
theorem strict_ext : ∀ {a b : List Int}, strict a → strict b → (∀ x, x ∈ a ↔ x ∈ b) → a = b := by
  intro a
  induction a with
  | nil =>
    intro b _ _ h
    cases b with
    | nil => rfl
    | cons y b => exact absurd ((h y).2 (List.mem_cons_self ..)) (by simp)
  | cons x a ih =>
    intro b ha hb h
    cases b with
    | nil => exact absurd ((h x).1 (List.mem_cons_self ..)) (by simp)
    | cons y b =>
      obtain ⟨a1, a2⟩ := List.pairwise_cons.1 ha
      obtain ⟨b1, b2⟩ := List.pairwise_cons.1 hb
      have hxy : x = y := by
        rcases List.mem_cons.1 ((h x).1 (List.mem_cons_self ..)) with e | e
        · exact e
        · rcases List.mem_cons.1 ((h y).2 (List.mem_cons_self ..)) with e' | e'
          · exact e'.symm
          · have := b1 x e
            have := a1 y e'
            omega
      subst hxy
      rw [ih a2 b2 fun z => ?_]
      constructor
      · intro hz
        rcases List.mem_cons.1 ((h z).1 (List.mem_cons_of_mem _ hz)) with e | e
        · have := a1 z hz
          omega
        · exact e
      · intro hz
        rcases List.mem_cons.1 ((h z).2 (List.mem_cons_of_mem _ hz)) with e | e
        · have := b1 z hz
          omega
        · exact e
theorem putI_mem (n z : Int) : ∀ p : List Int, z ∈ putI n p ↔ z = n ∨ z ∈ p := by
  intro p
  induction p with
  | nil => simp [putI]
  | cons y p ih =>
    unfold putI
    by_cases h : y < n
    · rw [if_pos h, List.mem_cons, ih, List.mem_cons]
      constructor
      · rintro (h | h | h)
        · exact .inr (.inl h)
        · exact .inl h
        · exact .inr (.inr h)
      · rintro (h | h | h)
        · exact .inr (.inl h)
        · exact .inl h
        · exact .inr (.inr h)
    · by_cases h' : y = n
      · rw [if_neg h, if_pos h', List.mem_cons, h']
        constructor
        · exact .inr
        · rintro (h | h)
          · exact .inl h
          · exact h
      · rw [if_neg h, if_neg h', List.mem_cons]
theorem putI_strict {n : Int} : ∀ {p : List Int}, strict p → strict (putI n p) := by
  intro p
  induction p with
  | nil => intro _; exact List.pairwise_singleton ..
  | cons y p ih =>
    intro h
    obtain ⟨h1, h2⟩ := List.pairwise_cons.1 h
    unfold putI
    by_cases hy : y < n
    · rw [if_pos hy]
      refine List.pairwise_cons.2 ⟨fun z hz => ?_, ih h2⟩
      rcases (putI_mem n z p).1 hz with rfl | hz
      · exact hy
      · exact h1 z hz
    · rw [if_neg hy]
      by_cases hy' : y = n
      · rw [if_pos hy']; exact h
      · rw [if_neg hy']
        refine List.pairwise_cons.2 ⟨fun z hz => ?_, h⟩
        rcases List.mem_cons.1 hz with rfl | hz
        · omega
        · have := h1 z hz
          omega
theorem sortI_mem (z : Int) (xs : List Int) : z ∈ sortI xs ↔ z ∈ xs := by
  have go : ∀ (xs p : List Int), z ∈ xs.foldl (fun p x => insI x p) p ↔ z ∈ p ∨ z ∈ xs := by
    intro xs
    induction xs with
    | nil => intro p; simp
    | cons x xs ih =>
      intro p
      rw [List.foldl_cons, ih, insI_mem, List.mem_cons]
      constructor
      · rintro ((h | h) | h)
        · exact .inr (.inl h)
        · exact .inl h
        · exact .inr (.inr h)
      · rintro (h | h | h)
        · exact .inl (.inr h)
        · exact .inl (.inl h)
        · exact .inr h
  have := go xs []
  unfold sortI
  simpa using this
theorem strict_nodup {xs : List Int} (h : strict xs) : xs.Nodup := h.imp fun hab e => by omega
theorem sortI_strict {xs : List Int} (h : xs.Nodup) : strict (sortI xs) := by
  have := fold_put xs [] h (by simp)
  unfold sortI
  rw [← this]
  have go : ∀ (xs p : List Int), strict p → strict (xs.foldl (fun p x => putI x p) p) := by
    intro xs
    induction xs with
    | nil => intro p h; exact h
    | cons x xs ih => intro p h; exact ih _ (putI_strict h)
  exact go xs [] List.Pairwise.nil
noncomputable def stepR (es : List (Int × Int)) (out : List Int) (s : Int) : List Int := if s ∉ out ∧ ∃ y ∈ out, nearG es y s then putI s out else out
noncomputable def roundR (es : List (Int × Int)) (set out : List Int) : List Int := set.foldl (stepR es) out
theorem putI_len_new {n : Int} {p : List Int} (h : n ∉ p) : (putI n p).length = p.length + 1 := by rw [putI_ins h, insI_len]
theorem stepR_facts {es : List (Int × Int)} {out : List Int} {s : Int} (h : strict out) : strict (stepR es out s) ∧ (∀ z ∈ out, z ∈ stepR es out s) ∧ (∀ z ∈ stepR es out s, z ∈ out ∨ z = s ∧ ∃ y ∈ out, nearG es y s) ∧
    out.length ≤ (stepR es out s).length ∧ ((stepR es out s).length = out.length → stepR es out s = out ∧ (s ∈ out ∨ ¬ ∃ y ∈ out, nearG es y s)) := by
  unfold stepR
  by_cases hc : s ∉ out ∧ ∃ y ∈ out, nearG es y s
  · rw [if_pos hc]
    refine ⟨putI_strict h, fun z hz => (putI_mem s z out).2 (.inr hz), fun z hz => ?_, by rw [putI_len_new hc.1]; omega, fun hl => ?_⟩
    · rcases (putI_mem s z out).1 hz with rfl | hz
      · exact .inr ⟨rfl, hc.2⟩
      · exact .inl hz
    · rw [putI_len_new hc.1] at hl
      omega
  · rw [if_neg hc]
    refine ⟨h, fun z hz => hz, fun z hz => .inl hz, Nat.le_refl _, fun _ => ⟨rfl, ?_⟩⟩
    by_cases h' : s ∈ out
    · exact .inl h'
    · exact .inr fun hy => hc ⟨h', hy⟩
theorem roundR_facts {es : List (Int × Int)} : ∀ {set out : List Int}, strict out → strict (roundR es set out) ∧ (∀ z ∈ out, z ∈ roundR es set out) ∧ out.length ≤ (roundR es set out).length ∧
    ((roundR es set out).length = out.length → roundR es set out = out ∧ ∀ s ∈ set, s ∈ out ∨ ¬ ∃ y ∈ out, nearG es y s) := by
  intro set
  induction set with
  | nil => intro out h; exact ⟨h, fun z hz => hz, Nat.le_refl _, fun _ => ⟨rfl, by simp⟩⟩
  | cons s set ih =>
    intro out h
    obtain ⟨s1, s2, s3, s4, s5⟩ := stepR_facts (es := es) (s := s) h
    obtain ⟨r1, r2, r3, r4⟩ := ih s1
    refine ⟨r1, fun z hz => r2 z (s2 z hz), Nat.le_trans s4 r3, fun hl => ?_⟩
    have hl' : (roundR es set (stepR es out s)).length = out.length := hl
    obtain ⟨e1, e2⟩ := s5 (by omega)
    obtain ⟨f1, f2⟩ := r4 (by omega)
    rw [e1] at f1 f2
    refine ⟨by show roundR es set (stepR es out s) = out; rw [e1, f1], fun z hz => ?_⟩
    rcases List.mem_cons.1 hz with rfl | hz
    · exact e2
    · exact f2 z hz
theorem roundR_sound {es : List (Int × Int)} {x : Int} {A : Int → Prop} : ∀ {set out : List Int}, strict out → (∀ s ∈ set, A s) → (∀ z ∈ out, Rch es A x z) → ∀ z ∈ roundR es set out, Rch es A x z := by
  intro set
  induction set with
  | nil => intro out _ _ h; exact h
  | cons s set ih =>
    intro out hs hA h
    obtain ⟨s1, s2, s3, s4, s5⟩ := stepR_facts (es := es) (s := s) hs
    refine ih s1 (fun z hz => hA z (List.mem_cons_of_mem _ hz)) fun z hz => ?_
    rcases s3 z hz with h' | ⟨rfl, y, hy, hn⟩
    · exact h z h'
    · exact .step (h y hy) hn (hA z (List.mem_cons_self ..))
theorem reach_rounds {es : List (Int × Int)} {set : List Int} {x : Int} (hx : x ∈ set) : ∀ (d n : Nat) (out : List Int), strict out → x ∈ out → (∀ z ∈ out, Rch es (· ∈ set) x z) → (n < out.length ∨ roundR es set out = out ∧ ∀ s ∈ set, s ∈ out ∨ ¬ ∃ y ∈ out, nearG es y s) →
    strict (iter (fun _ o => roundR es set o) d n out) ∧ x ∈ iter (fun _ o => roundR es set o) d n out ∧ (∀ z ∈ iter (fun _ o => roundR es set o) d n out, Rch es (· ∈ set) x z) ∧
      (n + d < (iter (fun _ o => roundR es set o) d n out).length ∨ ∀ s ∈ set, s ∈ iter (fun _ o => roundR es set o) d n out ∨ ¬ ∃ y ∈ iter (fun _ o => roundR es set o) d n out, nearG es y s) := by
  intro d
  induction d with
  | zero => intro n out h1 h2 h3 h4; exact ⟨h1, h2, h3, h4.imp _root_.id (·.2)⟩
  | succ d ih =>
    intro n out h1 h2 h3 h4
    obtain ⟨r1, r2, r3, r4⟩ := roundR_facts (es := es) (set := set) h1
    have := ih (n + 1) (roundR es set out) r1 (r2 x h2) (roundR_sound h1 (fun _ h => h) h3) (by
      by_cases hl : (roundR es set out).length = out.length
      · obtain ⟨e1, e2⟩ := r4 hl
        exact .inr ⟨by rw [e1, e1], by rw [e1]; exact e2⟩
      · rcases h4 with h4 | ⟨h4, _⟩
        · exact .inl (by omega)
        · exact absurd (by rw [h4]) hl)
    rw [show n + (d + 1) = n + 1 + d by omega]
    exact this
noncomputable def reachS (es : List (Int × Int)) (set : List Int) (x : Int) : List Int := iter (fun _ o => roundR es set o) set.length 0 [x]
theorem Rch_in {es : List (Int × Int)} {set : List Int} {x z : Int} (hx : x ∈ set) (h : Rch es (· ∈ set) x z) : z ∈ set := by
  cases h with
  | base => exact hx
  | step _ _ h => exact h
theorem reachS_spec {es : List (Int × Int)} {set : List Int} {x : Int} (hx : x ∈ set) : strict (reachS es set x) ∧ ∀ z, z ∈ reachS es set x ↔ Rch es (· ∈ set) x z := by
  obtain ⟨h1, h2, h3, h4⟩ := reach_rounds (es := es) hx set.length 0 [x] (List.pairwise_singleton ..) (by simp) (fun z hz => by simp at hz; rw [hz]; exact .base) (.inl (by simp))
  refine ⟨h1, fun z => ⟨h3 z, fun hz => ?_⟩⟩
  have hclosed : ∀ s ∈ set, s ∈ reachS es set x ∨ ¬ ∃ y ∈ reachS es set x, nearG es y s := by
    rcases h4 with h4 | h4
    · have := nodup_le (strict_nodup h1) fun z hz => Rch_in hx (h3 z hz)
      omega
    · exact h4
  induction hz with
  | base => exact h2
  | step _ hn hs ih =>
    rcases hclosed _ hs with h | h
    · exact h
    · exact absurd ⟨_, ih, hn⟩ h
theorem Reach_in_eq {R : Type} {N : Nat} (k0 : List Int → Int → Int → Int → List (Int × Int) → List Int → Option R) {set : List Int} {i : Nat} {rd m : Int} {es : List (Int × Int)} (hx : es.length ≤ 1048576) (hi : i < set.length) (hN : 1048577 ≤ N) : ∀ (d n K : Nat) (out : List Int), out.length ≤ 1048575 → n + d = out.length → d < K →
    Zq106_l0_0_0 N k0 K set rd i n m es out = k0 set rd i m es (if set[i] ∉ out ∧ ∃ y ∈ out.drop n, nearG es y set[i] then putI set[i] out else out) := by
  intro d
  induction d with
  | zero =>
    intro n K out hl hd hK
    obtain ⟨k, rfl⟩ := succ_of hK
    simp only [Zq106_l0_0_0, ilt_lenf (show ¬ n < out.length by omega), br_f]
    rw [List.drop_of_length_le (by omega), if_neg (by simp)]
  | succ d ih =>
    intro n K out hl hd hK
    obtain ⟨k, rfl⟩ := succ_of hK
    have hn : n < out.length := by omega
    simp only [Zq106_l0_0_0, ilt_len hn, br_t, inb_n hi, chk_t, rdI_n hi, l1Has_eq (show out.length ≤ 1048576 by omega) hN, bind_some', inb_n hn]
    by_cases hs : set[i] ∈ out
    · rw [decide_eq_true hs, Bool.not_true, br_f, if_neg (fun h => h.1 hs)]
    · rw [decide_eq_false hs, Bool.not_false, br_t, l2Near_eq (g := (m, es)) hx hN, bind_some', wrap_succ (by omega), rdI_n hn]
      by_cases hnr : nearG es out[n] set[i]
      · rw [decide_eq_true hnr, br_t, l1Put_eq (by omega) hN]
        simp only [bind_some']
        rw [if_pos ⟨hs, out[n], by rw [drop_cons hn]; exact List.mem_cons_self .., hnr⟩]
        have hpl := putI_len_new hs
        obtain ⟨k', rfl⟩ : ∃ k', k = k' + 1 := ⟨k - 1, by omega⟩
        have hin : set[i] ∈ putI set[i] out := (putI_mem _ _ _).2 (.inl rfl)
        simp only [Zq106_l0_0_0]
        rw [ilt_len (show n + 1 < (putI set[i] out).length by omega), br_t, inb_n hi, chk_t, rdI_n hi, l1Has_eq (by omega) hN, bind_some', decide_eq_true hin, Bool.not_true, br_f]
      · rw [decide_eq_false hnr, br_f, ih (n + 1) k out hl (by omega) (by omega)]
        have : (set[i] ∉ out ∧ ∃ y ∈ out.drop n, nearG es y set[i]) ↔ (set[i] ∉ out ∧ ∃ y ∈ out.drop (n + 1), nearG es y set[i]) := by
          rw [drop_cons hn]
          constructor
          · rintro ⟨h1, y, hy, h2⟩
            rcases List.mem_cons.1 hy with rfl | hy
            · exact absurd h2 hnr
            · exact ⟨h1, y, hy, h2⟩
          · rintro ⟨h1, y, hy, h2⟩
            exact ⟨h1, y, List.mem_cons_of_mem _ hy, h2⟩
        by_cases hc : set[i] ∉ out ∧ ∃ y ∈ out.drop (n + 1), nearG es y set[i]
        · rw [if_pos hc, if_pos (this.2 hc)]
        · rw [if_neg hc, if_neg (fun h => hc (this.1 h))]
theorem l2Reach_eq {N : Nat} {m : Int} {es : List (Int × Int)} {set : List Int} {x : Int} (hx : es.length ≤ 1048576) (hs : set.length ≤ 1048575) (hxs : x ∈ set) (hN : 1048577 ≤ N) : Zq106 N (m, es) set x = some ((reachS es set x, ()), ()) := by
  unfold Zq106
  have hsub : ∀ (l out : List Int), (∀ z ∈ l, z ∈ set) → strict out ∧ (∀ z ∈ out, z ∈ set) → strict (roundR es l out) ∧ ∀ z ∈ roundR es l out, z ∈ set := by
    intro l
    induction l with
    | nil => intro out _ h; exact h
    | cons s l ih =>
      intro out hl h
      obtain ⟨s1, s2, s3, s4, s5⟩ := stepR_facts (es := es) (s := s) h.1
      refine ih _ (fun z hz => hl z (List.mem_cons_of_mem _ hz)) ⟨s1, fun z hz => ?_⟩
      rcases s3 z hz with h' | ⟨rfl, _⟩
      · exact h.2 z h'
      · exact hl z (List.mem_cons_self ..)
  have hlen : ∀ out : List Int, strict out ∧ (∀ z ∈ out, z ∈ set) → out.length ≤ set.length := fun out h => nodup_le (strict_nodup h.1) h.2
  refine (loop_iter (L := fun K n o => Zq106_l0 N (fun o => some ((o, ()), ())) K set n m es o) (k := fun o => some ((o, ()), ())) (Inv := fun _ o => strict o ∧ ∀ z ∈ o, z ∈ set) (step := fun _ o => roundR es set o) (fun K n s hn _ => ?_) (fun K n s hn hi => ?_) (fun n s hn h => hsub set s (fun z hz => hz) h) (s := [x]) (m := set.length) (K := N) (by omega) ⟨List.pairwise_singleton .., fun z hz => by simp at hz; rw [hz]; exact hxs⟩)
  · simp only [Zq106_l0, ilt_lenf hn, br_f]
  · simp only [Zq106_l0, ilt_len hn, br_t]
    have key := (loop_list (xs := set) (L := fun K' i o => Zq106_l0_0 N (fun setv2 round1 o3 o4 o5 => Zq106_l0 N (fun o => some ((o, ()), ())) K setv2 (IntKind.i64.wrap (round1 + 1)) o3 o4 o5) K' set n i m es o) (k := fun o => Zq106_l0 N (fun o => some ((o, ()), ())) K set (IntKind.i64.wrap ((n : Int) + 1)) m es o) (stepR es) (fun _ o => strict o ∧ ∀ z ∈ o, z ∈ set) (fun K' i s hi' _ => ?_) (fun K' i s hi' h => ?_) (fun i s hi' h => ?_) (s := s) (K := N) (by omega) hi).1
    · rw [wrap_succ (by omega)] at key
      exact key
    · simp only [Zq106_l0_0, ilt_lenf hi', br_f]
    · have := hlen s h
      simp only [Zq106_l0_0, ilt_len hi', br_t]
      have e := Reach_in_eq (N := N) (fun setv3 round2 i1 o6 o7 o8 => Zq106_l0_0 N (fun setv2 round1 o3 o4 o5 => Zq106_l0 N (fun o => some ((o, ()), ())) K setv2 (IntKind.i64.wrap (round1 + 1)) o3 o4 o5) K' setv3 round2 (IntKind.i64.wrap (i1 + 1)) o6 o7 o8) (rd := (n : Int)) (m := m) hx hi' hN s.length 0 N s (by omega) (by omega) (by omega)
      rw [show ((0 : Nat) : Int) = 0 from rfl, List.drop_zero] at e
      rw [e, wrap_succ (by omega)]
      rfl
    · have := hsub [set[i]] s (fun z hz => by simp at hz; rw [hz]; exact List.getElem_mem hi') h
      exact this
theorem Rch_congr {es : List (Int × Int)} {A B : Int → Prop} {x : Int} (h : ∀ y z, nearG es y z → A z → B z) : ∀ {z : Int}, Rch es A x z → Rch es B x z := by
  intro z hz
  induction hz with
  | base => exact .base
  | step _ hn hA ih => exact .step ih hn (h _ _ hn hA)
def inM (m : Nat) (o : List Int) : Prop := o.Nodup ∧ ∀ z ∈ o, 0 ≤ z ∧ z < (m : Int)
theorem inM_len {m : Nat} {o : List Int} (h : inM m o) : o.length ≤ m := by
  have := nodup_le (b := (List.range m).map fun i : Nat => (i : Int)) h.1 fun z hz => by
    have := h.2 z hz
    exact List.mem_map.2 ⟨z.toNat, List.mem_range.2 (by omega), by omega⟩
  simpa using this
noncomputable def chainStep (A : Int → Prop) (o : List Int) (y : Int) : List Int := if A y ∧ y ∉ o then o ++ [y] else o
theorem chainStep_in {m : Nat} {A : Int → Prop} {o : List Int} {y : Int} (h : inM m o) (hy : 0 ≤ y ∧ y < (m : Int)) : inM m (chainStep A o y) := by
  unfold chainStep
  by_cases hc : A y ∧ y ∉ o
  · rw [if_pos hc]
    refine ⟨List.nodup_append.2 ⟨h.1, by simp, fun a ha b hb e => ?_⟩, fun z hz => ?_⟩
    · simp at hb
      rw [e, hb] at ha
      exact hc.2 ha
    · rcases List.mem_append.1 hz with hz | hz
      · exact h.2 z hz
      · simp at hz
        rw [hz]
        exact hy
  · rw [if_neg hc]; exact h
theorem chain_fold {m : Nat} {A : Int → Prop} {es : List (Int × Int)} {x u : Int} : ∀ (nb o : List Int), inM m o → (∀ y ∈ nb, 0 ≤ y ∧ y < (m : Int)) → (∀ y ∈ nb, nearG es u y) → u ∈ o → (∀ z ∈ o, Rch es A x z) →
    inM m (nb.foldl (chainStep A) o) ∧ (∃ t, nb.foldl (chainStep A) o = o ++ t) ∧ (∀ z ∈ nb.foldl (chainStep A) o, Rch es A x z) ∧ ∀ y ∈ nb, A y → y ∈ nb.foldl (chainStep A) o := by
  intro nb
  induction nb with
  | nil => intro o h _ _ _ hr; exact ⟨h, ⟨[], by simp⟩, hr, by simp⟩
  | cons y nb ih =>
    intro o h hn hu huo hr
    have hy := hn y (List.mem_cons_self ..)
    have hpre : ∃ t, chainStep A o y = o ++ t := by
      unfold chainStep
      by_cases hc : A y ∧ y ∉ o
      · rw [if_pos hc]; exact ⟨[y], rfl⟩
      · rw [if_neg hc]; exact ⟨[], by simp⟩
    obtain ⟨t, ht⟩ := hpre
    obtain ⟨r1, ⟨t', r2⟩, r3, r4⟩ := ih (chainStep A o y) (chainStep_in h hy) (fun z hz => hn z (List.mem_cons_of_mem _ hz)) (fun z hz => hu z (List.mem_cons_of_mem _ hz)) (by rw [ht]; exact List.mem_append_left _ huo) (fun z hz => by
      unfold chainStep at hz
      by_cases hc : A y ∧ y ∉ o
      · rw [if_pos hc] at hz
        rcases List.mem_append.1 hz with hz | hz
        · exact hr z hz
        · simp at hz
          rw [hz]
          exact .step (hr u huo) (hu y (List.mem_cons_self ..)) hc.1
      · rw [if_neg hc] at hz
        exact hr z hz)
    refine ⟨r1, ⟨t ++ t', by rw [List.foldl_cons, r2, ht, List.append_assoc]⟩, r3, fun z hz hA => ?_⟩
    rcases List.mem_cons.1 hz with rfl | hz
    · rw [List.foldl_cons, r2]
      refine List.mem_append_left _ ?_
      unfold chainStep
      by_cases hc : z ∉ o
      · rw [if_pos ⟨hA, hc⟩]; simp
      · rw [if_neg (fun h => hc h.2)]; exact Decidable.not_not.1 hc
    · exact r4 z hz hA
theorem chain_in_eq {R : Type} {N : Nat} (k0 : List Int → Int → Int → Int → Int → List (Int × Int) → List Int → Option R) {cs nb out : List Int} {c own i : Int} {m : Nat} {es : List (Int × Int)} (hm : m ≤ 8) (hcs : (cs.length : Int) = m) (ho : inM m out) (hnb : ∀ y ∈ nb, 0 ≤ y ∧ y < (m : Int)) (hl : nb.length ≤ 1048576) (hN : 1048577 ≤ N) :
    Zq7_l0_0 N k0 N cs c own i (nb.length : Int) 0 (m : Int) es out nb = k0 cs c own i (m : Int) es (nb.foldl (chainStep fun y => rdI cs y = own ∨ rdI cs y = c) out) := by
  refine (loop_list (xs := nb) (L := fun K n o => Zq7_l0_0 N k0 K cs c own i (nb.length : Int) n (m : Int) es o nb) (k := fun o => k0 cs c own i (m : Int) es o) (chainStep fun y => rdI cs y = own ∨ rdI cs y = c) (fun _ o => inM m o) (fun K n s hn _ => ?_) (fun K n s hn hs => ?_) (fun n s hn h => chainStep_in h (hnb _ (List.getElem_mem hn))) (s := out) (K := N) (by omega) ho).1
  · simp only [Zq7_l0_0, ilt_nf hn, br_f]
  · have hy := hnb _ (List.getElem_mem hn)
    have hsl := inM_len hs
    simp only [Zq7_l0_0, ilt_n hn, br_t, inb_n hn, chk_t]
    rw [rdI_n hn, inb_i (by omega) (by omega), chk_t, chk_t, Contains_eq (by omega) hN, wrap_succ (by omega), room_ok (by simp; omega), chk_t]
    simp only [bind_some']
    unfold chainStep
    have hfin : br (!decide (nb[n] ∈ s)) (Zq7_l0_0 N k0 K cs c own i (nb.length : Int) ((n + 1 : Nat) : Int) (m : Int) es (tApp s [nb[n]]) nb) (Zq7_l0_0 N k0 K cs c own i (nb.length : Int) ((n + 1 : Nat) : Int) (m : Int) es s nb) = Zq7_l0_0 N k0 K cs c own i (nb.length : Int) ((n + 1 : Nat) : Int) (m : Int) es (if nb[n] ∉ s then s ++ [nb[n]] else s) nb := by
      by_cases h : nb[n] ∈ s
      · rw [decide_eq_true h, Bool.not_true, br_f, if_neg (fun h' => h' h)]
      · rw [decide_eq_false h, Bool.not_false, br_t, if_pos h]
        rfl
    by_cases h1 : rdI cs nb[n] = own
    · rw [ieq_t h1, br_t, hfin]
      congr 1
      by_cases h : nb[n] ∉ s
      · rw [if_pos h, if_pos ⟨.inl h1, h⟩]
      · rw [if_neg h, if_neg (fun h' => h h'.2)]
    · rw [ieq_f h1, br_f]
      by_cases h2 : rdI cs nb[n] = c
      · rw [ieq_t h2, br_t, hfin]
        congr 1
        by_cases h : nb[n] ∉ s
        · rw [if_pos h, if_pos ⟨.inr h2, h⟩]
        · rw [if_neg h, if_neg (fun h' => h h'.2)]
      · rw [ieq_f h2, br_f, if_neg (fun h' => h'.1.elim h1 h2)]
theorem chain_ex {R : Type} {N : Nat} (k0 : List Int → Option R) {cs : List Int} {c own x : Int} {m : Nat} {es : List (Int × Int)} (hm : m ≤ 8) (hg : goodG ((m : Int), es)) (hx : es.length ≤ 1048576) (hcs : (cs.length : Int) = m) (hN : 1048577 ≤ N) : ∀ (d i K : Nat) (out : List Int), i + d = m → d < K → inM m out → x ∈ out → (∀ z ∈ out, Rch es (fun y => rdI cs y = own ∨ rdI cs y = c) x z) →
    (∀ j (h : j < out.length), j < i → ∀ z, nearG es out[j] z → (rdI cs z = own ∨ rdI cs z = c) → z ∈ out) →
    ∃ o', inM m o' ∧ (∀ z, z ∈ o' ↔ Rch es (fun y => rdI cs y = own ∨ rdI cs y = c) x z) ∧ Zq7_l0 N k0 K cs c own i (m : Int) es out = k0 o' := by
  intro d
  have fin : ∀ (i K : Nat) (out : List Int), 0 < K → ¬ i < out.length → inM m out → x ∈ out → (∀ z ∈ out, Rch es (fun y => rdI cs y = own ∨ rdI cs y = c) x z) →
      (∀ j (h : j < out.length), j < i → ∀ z, nearG es out[j] z → (rdI cs z = own ∨ rdI cs z = c) → z ∈ out) →
      ∃ o', inM m o' ∧ (∀ z, z ∈ o' ↔ Rch es (fun y => rdI cs y = own ∨ rdI cs y = c) x z) ∧ Zq7_l0 N k0 K cs c own i (m : Int) es out = k0 o' := by
    intro i K out hK hi ho hxo hr hcl
    obtain ⟨k, rfl⟩ := succ_of hK
    refine ⟨out, ho, fun z => ⟨hr z, fun hz => ?_⟩, ?_⟩
    · induction hz with
      | base => exact hxo
      | step _ hn hA ih =>
        obtain ⟨j, hj, e⟩ := List.mem_iff_getElem.1 ih
        exact hcl j hj (by omega) _ (by rw [e]; exact hn) hA
    · simp only [Zq7_l0, ilt_lenf hi, br_f]
  induction d with
  | zero =>
    intro i K out hd hK ho hxo hr hcl
    have := inM_len ho
    exact fin i K out (by omega) (by omega) ho hxo hr hcl
  | succ d ih =>
    intro i K out hd hK ho hxo hr hcl
    by_cases hi : i < out.length
    · obtain ⟨k, rfl⟩ := succ_of hK
      have hnbr : ∀ y ∈ nbr m es out[i], 0 ≤ y ∧ y < (m : Int) := fun y hy => by
        obtain ⟨q, hq, _, rfl⟩ := mem_nbr.1 hy
        omega
      have hnl := nbr_len m es out[i]
      obtain ⟨f1, ⟨t, f2⟩, f3, f4⟩ := chain_fold (m := m) (A := fun y => rdI cs y = own ∨ rdI cs y = c) (es := es) (x := x) (u := out[i]) (nbr m es out[i]) out ho hnbr (fun y hy => by
        obtain ⟨q, hq, h, rfl⟩ := mem_nbr.1 hy
        exact h) (List.getElem_mem hi) hr
      obtain ⟨o', o1, o2, o3⟩ := ih (i + 1) k _ (by omega) (by omega) f1 (by rw [f2]; exact List.mem_append_left _ hxo) f3 (fun j hj hji z hz hA => by
        by_cases hjl : j < out.length
        · have e : ((nbr m es out[i]).foldl (chainStep fun y => rdI cs y = own ∨ rdI cs y = c) out)[j] = out[j] := by
            simp only [f2]
            exact List.getElem_append_left hjl
          rw [e] at hz
          by_cases hje : j = i
          · subst hje
            refine f4 z (mem_nbr.2 ?_) hA
            obtain ⟨_, b1, b2⟩ := near_in hg hz
            simp only at b2
            exact ⟨z.toNat, by omega, by rw [show ((z.toNat : Nat) : Int) = z by omega]; exact hz, by omega⟩
          · rw [f2]
            exact List.mem_append_left _ (hcl j hjl (by omega) z hz hA)
        · omega)
      refine ⟨o', o1, o2, ?_⟩
      simp only [Zq7_l0, ilt_len hi, br_t, inb_n hi, chk_t]
      rw [rdI_n hi, neighbors_eq hg hx hN]
      simp only [bind_some', tLen_n (nbr m es out[i])]
      rw [chain_in_eq _ hm hcs ho hnbr (by omega) hN, wrap_succ (by omega)]
      exact o3
    · exact fin i K out (by omega) hi ho hxo hr hcl
noncomputable def someL (m : Nat) (cs : List Int) (own c : Int) : List Int := ((List.range' 0 m).filter fun i : Nat => decide (rdI cs (i : Int) = own ∨ rdI cs (i : Int) = c)).map (fun i : Nat => (i : Int))
theorem mem_someL {m : Nat} {cs : List Int} {own c y : Int} : y ∈ someL m cs own c ↔ (0 ≤ y ∧ y < (m : Int)) ∧ (rdI cs y = own ∨ rdI cs y = c) := by
  unfold someL
  rw [List.mem_map]
  constructor
  · rintro ⟨i, hi, rfl⟩
    obtain ⟨h1, h2⟩ := List.mem_filter.1 hi
    have := List.mem_range'_1.1 h1
    exact ⟨by omega, of_decide_eq_true h2⟩
  · rintro ⟨h1, h2⟩
    refine ⟨y.toNat, List.mem_filter.2 ⟨List.mem_range'_1.2 (by omega), decide_eq_true ?_⟩, by omega⟩
    rw [show ((y.toNat : Nat) : Int) = y by omega]
    exact h2
noncomputable def chainR (m : Nat) (es : List (Int × Int)) (cs : List Int) (x c : Int) : List Int := reachS es (someL m cs (rdI cs x) c) x
theorem someL_len (m : Nat) (cs : List Int) (own c : Int) : (someL m cs own c).length ≤ m := by
  unfold someL
  rw [List.length_map]
  exact Nat.le_trans (List.length_filter_le ..) (by simp)
theorem spec_chain_eq {N : Nat} {m : Nat} {es : List (Int × Int)} {cs : List Int} {x c : Int} (hm : m ≤ 8) (hx : es.length ≤ 1048576) (hcs : (cs.length : Int) = m) (hxm : 0 ≤ x ∧ x < (m : Int)) (hN : 1048577 ≤ N) : Zq113 N ((m : Int), es) cs x c = some ((chainR m es cs x c, ()), ()) := by
  unfold Zq113
  have hsl := someL_len m cs (rdI cs x) c
  refine (loop_iter (L := fun K n o => Zq113_l0 N (fun x1 o o1 o2 => ((Zq106 N (o, o1) o2 x1).bind fun r => some ((r.1.1, ()), ()))) K cs x c n (m : Int) es o) (k := fun o => ((Zq106 N ((m : Int), es) o x).bind fun r => some ((r.1.1, ()), ()))) (Inv := fun n o => o.length ≤ n) (step := fun n o => if rdI cs (n : Int) = rdI cs x ∨ rdI cs (n : Int) = c then o ++ [(n : Int)] else o) (fun K n s hn _ => ?_) (fun K n s hn hs => ?_) (fun n s hn h => ?_) (s := []) (m := m) (K := N) (by omega) (Nat.zero_le _)).trans ?_
  · simp only [Zq113_l0, ilt_nf hn, br_f]
  · simp only [Zq113_l0, ilt_n hn, br_t]
    rw [inb_n (by omega), chk_t, wrap_succ (by omega), room_ok (by simp; omega), chk_t, chk_t, inb_i (by omega) (by omega), chk_t]
    by_cases h1 : rdI cs (n : Int) = c
    · rw [ieq_t h1, br_t, if_pos (Or.inr h1)]
      rfl
    · rw [ieq_f h1, br_f]
      by_cases h2 : rdI cs (n : Int) = rdI cs x
      · rw [ieq_t h2, br_t, if_pos (Or.inl h2)]
        rfl
      · rw [ieq_f h2, br_f, if_neg (fun h => h.elim h2 h1)]
  · by_cases hc : rdI cs (n : Int) = rdI cs x ∨ rdI cs (n : Int) = c
    · rw [if_pos hc]; simp; omega
    · rw [if_neg hc]; omega
  · rw [iter_app, List.nil_append]
    show ((Zq106 N ((m : Int), es) (someL m cs (rdI cs x) c) x).bind fun r => some ((r.1.1, ()), ())) = _
    rw [l2Reach_eq hx (by omega) (mem_someL.2 ⟨hxm, .inl rfl⟩) hN]
    rfl
theorem impl_chain_eq {N : Nat} {m : Nat} {es : List (Int × Int)} {cs : List Int} {x c : Int} (hm : m ≤ 8) (hg : goodG ((m : Int), es)) (hx : es.length ≤ 1048576) (hcs : (cs.length : Int) = m) (hxm : 0 ≤ x ∧ x < (m : Int)) (hN : 1048577 ≤ N) : Zq7 N ((m : Int), es) cs x c = some ((chainR m es cs x c, ()), ()) := by
  unfold Zq7
  rw [inb_i hxm.1 (by omega), chk_t]
  obtain ⟨o', h1, h2, h3⟩ := chain_ex (N := N) (fun o => ((Zq72 N o).bind fun r => some ((r.2.1, ()), ()))) (cs := cs) (c := c) (own := rdI cs x) (x := x) hm hg hx hcs hN m 0 N [x] (by omega) (by omega) ⟨by simp, fun z hz => by simp at hz; rw [hz]; exact hxm⟩ (by simp) (fun z hz => by simp at hz; rw [hz]; exact .base) (fun j hj hj0 => by omega)
  rw [show ((0 : Nat) : Int) = 0 from rfl] at h3
  have hl := inM_len h1
  rw [h3, Sort_eq (by omega) hN]
  simp only [bind_some']
  have hxs : x ∈ someL m cs (rdI cs x) c := mem_someL.2 ⟨hxm, .inl rfl⟩
  obtain ⟨s1, s2⟩ := reachS_spec (es := es) hxs
  rw [show sortI o' = chainR m es cs x c from strict_ext (sortI_strict h1.1) s1 fun z => by
    rw [sortI_mem, h2, show z ∈ chainR m es cs x c ↔ _ from s2 z]
    constructor
    · exact Rch_congr fun y z hn hA => by
        obtain ⟨_, b⟩ := near_in hg hn
        exact mem_someL.2 ⟨b, hA⟩
    · exact Rch_congr fun y z hn hA => (mem_someL.1 hA).2]
theorem chainR_len {m : Nat} {es : List (Int × Int)} {cs : List Int} {x c : Int} (hxm : 0 ≤ x ∧ x < (m : Int)) : (chainR m es cs x c).length ≤ m := by
  have hxs : x ∈ someL m cs (rdI cs x) c := mem_someL.2 ⟨hxm, .inl rfl⟩
  obtain ⟨s1, s2⟩ := reachS_spec (es := es) hxs
  exact Nat.le_trans (nodup_le (strict_nodup s1) fun z hz => Rch_in hxs ((s2 z).1 hz)) (someL_len ..)
theorem chainR_mem {m : Nat} {es : List (Int × Int)} {cs : List Int} {x c y : Int} (hxm : 0 ≤ x ∧ x < (m : Int)) (h : y ∈ chainR m es cs x c) : (0 ≤ y ∧ y < (m : Int)) ∧ (rdI cs y = rdI cs x ∨ rdI cs y = c) := by
  have hxs : x ∈ someL m cs (rdI cs x) c := mem_someL.2 ⟨hxm, .inl rfl⟩
  obtain ⟨s1, s2⟩ := reachS_spec (es := es) hxs
  exact mem_someL.1 (Rch_in hxs ((s2 y).1 h))
noncomputable def kStep (cs : List Int) (own c : Int) (o : List Int) (y : Int) : List Int := tSet o y (if rdI cs y = own then c else own)
noncomputable def kempeR (m : Nat) (es : List (Int × Int)) (cs : List Int) (x c : Int) : List Int := (chainR m es cs x c).foldl (kStep cs (rdI cs x) c) cs
theorem kStep_len (cs : List Int) (own c : Int) (o : List Int) (y : Int) : (kStep cs own c o y).length = o.length := by
  unfold kStep tSet
  exact List.length_set
theorem kempeR_len (m : Nat) (es : List (Int × Int)) (cs : List Int) (x c : Int) : (kempeR m es cs x c).length = cs.length := by
  have go : ∀ (l o : List Int), (l.foldl (kStep cs (rdI cs x) c) o).length = o.length := by
    intro l
    induction l with
    | nil => intro o; rfl
    | cons y l ih => intro o; rw [List.foldl_cons, ih, kStep_len]
  exact go _ _
theorem spec_kempe_eq {N : Nat} {m : Nat} {es : List (Int × Int)} {cs : List Int} {x c : Int} (hm : m ≤ 8) (hx : es.length ≤ 1048576) (hcs : (cs.length : Int) = m) (hxm : 0 ≤ x ∧ x < (m : Int)) (hc : 0 ≤ c ∧ c ≤ 4) (hcol : ∀ z ∈ cs, 0 ≤ z ∧ z ≤ 4) (hN : 1048577 ≤ N) : Zq116 N ((m : Int), es) cs x c = some ((kempeR m es cs x c, ()), ()) := by
  unfold Zq116
  have hl := chainR_len (es := es) (cs := cs) (c := c) hxm
  have hcl : ∀ y : Int, 0 ≤ y ∧ y < (m : Int) → 0 ≤ rdI cs y ∧ rdI cs y ≤ 4 := fun y hy => by
    obtain ⟨n, rfl⟩ : ∃ n : Nat, y = n := ⟨y.toNat, by omega⟩
    have hn : n < cs.length := by omega
    rw [rdI_n hn]
    exact hcol _ (List.getElem_mem hn)
  simp only [l1Own_eq (show cs.length ≤ 1048576 by omega), spec_chain_eq hm hx hcs hxm hN, bind_some']
  refine (loop_list (xs := chainR m es cs x c) (L := fun K n o => Zq116_l0 N (fun o => some ((o, ()), ())) K cs x c n o (chainR m es cs x c)) (k := fun o => some ((o, ()), ())) (kStep cs (rdI cs x) c) (fun _ o => o.length = cs.length) (fun K n s hn _ => ?_) (fun K n s hn hs => ?_) (fun n s hn h => by rw [kStep_len]; exact h) (s := cs) (K := N) (by omega) rfl).1
  · simp only [Zq116_l0, ilt_lenf hn, br_f]
  · obtain ⟨hy, hyc⟩ := chainR_mem hxm (List.getElem_mem hn)
    have c1 := hcl _ hy
    have c2 := hcl _ hxm
    simp only [Zq116_l0, ilt_len hn, br_t, inb_n hn, chk_t, rdI_n hn]
    rw [inb_i hxm.1 (by omega), chk_t, inb_i hy.1 (by omega), chk_t, inb_i hy.1 (by omega), chk_t, wrap_succ (by omega), wrap_ok (show -9223372036854775808 ≤ rdI cs x + c by omega) (by omega), wrap_ok (by omega) (by omega)]
    unfold kStep
    by_cases h : rdI cs (chainR m es cs x c)[n] = rdI cs x
    · rw [if_pos h, h, show rdI cs x + c - rdI cs x = c by omega]
    · rw [if_neg h, hyc.resolve_left h, show rdI cs x + c - c = rdI cs x by omega]
theorem impl_kempe_eq {N : Nat} {m : Nat} {es : List (Int × Int)} {cs : List Int} {x c : Int} (hm : m ≤ 8) (hg : goodG ((m : Int), es)) (hx : es.length ≤ 1048576) (hcs : (cs.length : Int) = m) (hxm : 0 ≤ x ∧ x < (m : Int)) (hN : 1048577 ≤ N) : Zq15 N ((m : Int), es) cs x c = some ((kempeR m es cs x c, ()), ()) := by
  unfold Zq15
  have hl := chainR_len (es := es) (cs := cs) (c := c) hxm
  simp only [Clone_eq (show cs.length ≤ 1048576 by omega), impl_chain_eq hm hg hx hcs hxm hN, bind_some', tLen_n]
  rw [inb_i hxm.1 (by omega), chk_t]
  refine (loop_list (xs := chainR m es cs x c) (L := fun K n o => Zq15_l0 N (fun o => some ((o, ()), ())) K cs c (rdI cs x) ((chainR m es cs x c).length : Int) n o (chainR m es cs x c)) (k := fun o => some ((o, ()), ())) (kStep cs (rdI cs x) c) (fun _ o => o.length = cs.length) (fun K n s hn _ => ?_) (fun K n s hn hs => ?_) (fun n s hn h => by rw [kStep_len]; exact h) (s := cs) (K := N) (by omega) rfl).1
  · simp only [Zq15_l0, ilt_nf hn, br_f]
  · obtain ⟨hy, hyc⟩ := chainR_mem hxm (List.getElem_mem hn)
    simp only [Zq15_l0, ilt_n hn, br_t, inb_n hn, chk_t, rdI_n hn]
    rw [inb_i hy.1 (by omega), chk_t, inb_i hy.1 (by omega), chk_t, chk_t, wrap_succ (by omega)]
    unfold kStep
    by_cases h : rdI cs (chainR m es cs x c)[n] = rdI cs x
    · rw [ieq_t h, br_t, if_pos h]
    · rw [ieq_f h, br_f, if_neg h]
def stepsC (f : Nat → List (List Int) → List (List Int)) : Nat → Nat → List (List Int) → List (List Int)
  | 0, _, l => l
  | r + 1, c, l => if l.length ≤ 300 then stepsC f r (c + 1) (f c l) else l
def freeC (es : List (Int × Int)) (b : List Int) (c : Int) : Prop := ∀ y : Nat, y < b.length → ¬ (rdI b y = c ∧ nearG es y (b.length : Int))
noncomputable def moreC (k : Nat) (es : List (Int × Int)) : Nat → List Int → List (List Int) → List (List Int)
  | 0, b, l => l ++ [b]
  | d + 1, b, l => stepsC (fun c l => if freeC es b (c : Int) then moreC k es d (b ++ [(c : Int)]) l else l) k 0 l
theorem stepsC_inv {f : Nat → List (List Int) → List (List Int)} {p : List (List Int) → Prop} (h : ∀ c l, l.length ≤ 300 → p l → p (f c l)) : ∀ (r c : Nat) (l : List (List Int)), p l → p (stepsC f r c l) := by
  intro r
  induction r with
  | zero => intro c l hl; exact hl
  | succ r ih =>
    intro c l hl
    unfold stepsC
    by_cases h3 : l.length ≤ 300
    · rw [if_pos h3]; exact ih _ _ (h c l h3 hl)
    · rw [if_neg h3]; exact hl
theorem moreC_len {k : Nat} {es : List (Int × Int)} : ∀ (d : Nat) (b : List Int) (l : List (List Int)), l.length ≤ 300 → (moreC k es d b l).length ≤ 301 := by
  intro d
  induction d with
  | zero => intro b l h; simp [moreC]; omega
  | succ d ih =>
    intro b l h
    unfold moreC
    refine stepsC_inv (p := fun l => l.length ≤ 301) (fun c l h1 h2 => ?_) k 0 l (by omega)
    by_cases hf : freeC es b (c : Int)
    · rw [if_pos hf]; exact ih _ _ h1
    · rw [if_neg hf]; exact h2
theorem moreC_rows {k : Nat} {es : List (Int × Int)} {m : Nat} : ∀ (d : Nat) (b : List Int) (l : List (List Int)), b.length + d = m → (∀ x ∈ l, x.length = m) → ∀ x ∈ moreC k es d b l, x.length = m := by
  intro d
  induction d with
  | zero =>
    intro b l hb h x hx
    simp only [moreC, List.mem_append, List.mem_singleton] at hx
    rcases hx with hx | rfl
    · exact h x hx
    · omega
  | succ d ih =>
    intro b l hb h
    unfold moreC
    refine stepsC_inv (p := fun l => ∀ x ∈ l, x.length = m) (fun c l h1 h2 => ?_) k 0 l h
    by_cases hf : freeC es b (c : Int)
    · rw [if_pos hf]; exact ih _ _ (by simp; omega) h2
    · rw [if_neg hf]; exact h2
theorem l5More_l0_0_eq {R : Type} {N : Nat} (hN : 1048577 ≤ N) {slf : (Int × List (Int × Int)) → Int → List Int → List (List Int) → Option ((List (List Int) × Unit) × Unit)} {k0 : Int → List Int → Int → Bool → Int → Bool → List (List Int) → Int → List (Int × Int) → Option R}
    {k c : Int} {b : List Int} {a : Int} {z : Bool} {o : List (List Int)} {m : Int} {es : List (Int × Int)} (hx : es.length ≤ 1048576) (hb : b.length ≤ 1048576) : ∀ (d n K : Nat) (f : Bool), n + d = b.length → d < K →
    Zq117_l0_0 N slf k0 K k b c f (n : Int) a z o m es = k0 k b c (f && decide (∀ y : Nat, n ≤ y → y < b.length → ¬ (rdI b y = c ∧ nearG es y (b.length : Int)))) a z o m es := by
  intro d
  induction d with
  | zero =>
    intro n K f hd hK
    obtain ⟨K, rfl⟩ := succ_of hK
    simp only [Zq117_l0_0, ilt_lenf (show ¬ n < b.length by omega), br_f]
    rw [decide_eq_true (fun y h1 h2 => by omega), Bool.and_true]
  | succ d ih =>
    intro n K f hd hK
    obtain ⟨K, rfl⟩ := succ_of hK
    have hn : n < b.length := by omega
    simp only [Zq117_l0_0, ilt_len hn, br_t, inb_n hn, chk_t]
    rw [wrap_succ (by omega), ih (n + 1) K false (by omega) (by omega), ih (n + 1) K true (by omega) (by omega), l2Near_eq (g := (m, es)) hx hN, bind_some', ih (n + 1) K _ (by omega) (by omega)]
    cases f with
    | false => simp [br_f]
    | true =>
      rw [br_t]
      by_cases h1 : rdI b n = c
      · rw [ine_f h1, br_f]
        congr 1
        rw [Bool.true_and]
        by_cases h2 : nearG es n (b.length : Int)
        · have : ¬ ∀ y : Nat, n ≤ y → y < b.length → ¬ (rdI b y = c ∧ nearG es y (b.length : Int)) := fun h => h n (Nat.le_refl _) hn ⟨h1, h2⟩
          rw [decide_eq_false this, tLen_n, decide_eq_true h2]
          rfl
        · rw [tLen_n, decide_eq_false h2, Bool.not_false, Bool.true_and]
          refine decide_eq_decide.2 ⟨fun h y h3 h4 h5 => ?_, fun h y h3 h4 => h y (by omega) h4⟩
          by_cases e : y = n
          · subst e; exact h2 h5.2
          · exact h y (by omega) h4 h5
      · rw [ine_t h1, br_t]
        congr 1
        rw [Bool.true_and, Bool.true_and]
        refine decide_eq_decide.2 ⟨fun h y h3 h4 h5 => ?_, fun h y h3 h4 => h y (by omega) h4⟩
        by_cases e : y = n
        · subst e; exact h1 h5.1
        · exact h y (by omega) h4 h5
theorem l5More_eq {N : Nat} (hN : 1048577 ≤ N) {k m : Nat} {es : List (Int × Int)} (hx : es.length ≤ 1048576) (hk : k ≤ 5) (hm : m ≤ 8) : ∀ (d : Nat) (b : List Int) (l : List (List Int)) (K : Nat), b.length + d = m → d < K → l.length ≤ 300 →
    Zq117_r N K ((m : Int), es) (k : Int) b l = some ((moreC k es d b l, ()), ()) := by
  intro d
  induction d with
  | zero =>
    intro b l K hd hK hl
    obtain ⟨K, rfl⟩ := succ_of hK
    have hb : b.length = m := by omega
    unfold Zq117_r Zq117_b
    simp only []
    rw [tLen_n, ieq_t (by omega), br_t, l1Own_eq (by omega), bind_some', room_ok (by simp; omega), chk_t]
    rfl
  | succ d ih =>
    intro b l K hd hK hl
    obtain ⟨K, rfl⟩ := succ_of hK
    have hb : b.length < m := by omega
    unfold Zq117_r Zq117_b
    simp only []
    rw [tLen_n, ieq_f (by omega), br_f]
    have go : ∀ (r c : Nat) (l : List (List Int)) (K' : Nat), c + r = k → r < K' → l.length ≤ 301 →
        Zq117_l0 N (Zq117_r N K) (fun o => some ((o, ()), ())) K' (k : Int) b (c : Int) l (m : Int) es = some ((stepsC (fun c l => if freeC es b (c : Int) then moreC k es d (b ++ [(c : Int)]) l else l) r c l, ()), ()) := by
      intro r
      induction r with
      | zero =>
        intro c l K' hr hK' hl
        obtain ⟨K', rfl⟩ := succ_of hK'
        simp only [Zq117_l0, ilt_nf (show ¬ c < k by omega), br_f, stepsC]
      | succ r ihr =>
        intro c l K' hr hK' hl
        obtain ⟨K', rfl⟩ := succ_of hK'
        simp only [Zq117_l0, ilt_n (show c < k by omega), br_t, tLen_n]
        by_cases h3 : l.length ≤ 300
        · rw [ile_t (by omega), br_t]
          have := l5More_l0_0_eq (R := (List (List Int) × Unit) × Unit) hN (slf := Zq117_r N K) (k0 := fun x3 x4 x5 x6 x7 x8 o3 o4 o5 => br x6
              ((Zq94 N x4).bind fun r1 => chk (room r1.1.1 [x5]) ((Zq117_r N K (o4, o5) x3 (tApp r1.1.1 [x5]) o3).bind fun r2 =>
                Zq117_l0 N (Zq117_r N K) (fun o => some ((o, ()), ())) K' x3 x4 (IntKind.i64.wrap (x5 + 1)) r2.1.1 o4 o5))
              (Zq117_l0 N (Zq117_r N K) (fun o => some ((o, ()), ())) K' x3 x4 (IntKind.i64.wrap (x5 + 1)) o3 o4 o5)) (k := (k : Int)) (c := (c : Int)) (b := b) (a := (l.length : Int)) (z := true) (o := l) (m := (m : Int)) (es := es) hx (by omega) b.length 0 N true (by omega) (by omega)
          rw [show ((0 : Nat) : Int) = 0 from rfl] at this
          rw [this, Bool.true_and]
          unfold stepsC
          rw [if_pos h3]
          have hfr : (∀ y : Nat, 0 ≤ y → y < b.length → ¬ (rdI b y = (c : Int) ∧ nearG es y (b.length : Int))) ↔ freeC es b (c : Int) := ⟨fun h y hy => h y (Nat.zero_le _) hy, fun h y _ hy => h y hy⟩
          rw [decide_eq_decide.2 hfr, wrap_succ (by omega)]
          by_cases hf : freeC es b (c : Int)
          · rw [decide_eq_true hf, br_t, l1Own_eq (by omega), bind_some', room_ok (by simp; omega), chk_t, tApp_d, ih _ _ K (by simp; omega) (by omega) h3, bind_some']
            simp only [if_pos hf]
            exact ihr (c + 1) _ K' (by omega) (by omega) (moreC_len _ _ _ h3)
          · rw [decide_eq_false hf, br_f]
            simp only [if_neg hf]
            exact ihr (c + 1) _ K' (by omega) (by omega) hl
        · rw [ile_f (by omega), br_f]
          unfold stepsC
          rw [if_neg h3]
    have := go k 0 l N (by omega) (by omega) (by omega)
    rw [show ((0 : Nat) : Int) = 0 from rfl] at this
    rw [this]
    rfl
theorem nearG_symm {es : List (Int × Int)} {a b : Int} : nearG es a b ↔ nearG es b a := ⟨fun h => h.elim .inr .inl, fun h => h.elim .inr .inl⟩
theorem rdI_take {cs : List Int} {x : Nat} {y : Nat} (h : y < x) (hx : x ≤ cs.length) : rdI (cs.take x) y = rdI cs y := by
  rw [rdI_n (by simp; omega), rdI_n (by omega), List.getElem_take]
theorem colFree_eq {N : Nat} (hN : 1048577 ≤ N) {m : Nat} {es : List (Int × Int)} (hg : goodG ((m : Int), es)) (hx : es.length ≤ 1048576) {x : Nat} {cs : List Int} (hcs : cs.length = m) (hxm : x < m) (c : Int) :
    Zq59 N (nbr m es x) (fun y0 => (Zq10 N y0 (x : Int) cs c).bind fun z => some z.1.1) = some ((!decide (freeC es (cs.take x) c), ()), ()) := by
  have hm := hg.1
  simp only at hm
  have hl := nbr_len m es x
  rw [ContainsFunc_LI_int_eq (g := fun y => decide (y < (x : Int) ∧ rdI cs y = c)) (fun y hy => ?_) (by omega) (by omega)]
  · congr 3
    rw [← Bool.not_not ((nbr m es x).any _), not_any]
    congr 1
    refine decide_eq_decide.2 ⟨fun h y hy h1 => ?_, fun h y hy => decide_eq_false fun h1 => ?_⟩
    · have hyx : y < x := by simp at hy; omega
      have hy2 : (cs.take x).length = x := by simp; omega
      rw [hy2] at h1
      rw [rdI_take hyx (by omega)] at h1
      have := h y (mem_nbr.2 ⟨y, by omega, nearG_symm.1 h1.2, rfl⟩)
      simp only [decide_eq_false_iff_not] at this
      exact this ⟨by omega, h1.1⟩
    · obtain ⟨i, h2, h3, rfl⟩ := mem_nbr.1 hy
      have hix : i < x := by omega
      have hy2 : (cs.take x).length = x := by simp; omega
      refine h i (by omega) ⟨by rw [rdI_take hix (by omega)]; exact h1.2, ?_⟩
      rw [hy2]
      exact nearG_symm.1 h3
  · obtain ⟨i, h2, h3, rfl⟩ := mem_nbr.1 hy
    unfold Zq10
    by_cases hix : i < x
    · rw [ilt_n hix, br_t, inb_n (by omega), chk_t, bind_some', ieq_d]
      congr 1
      refine decide_eq_decide.2 ⟨fun h => ⟨by omega, h⟩, fun h => h.2⟩
    · rw [ilt_nf hix, br_f, bind_some']
      congr 1
      exact (decide_eq_false fun h => hix (by omega)).symm
theorem take_set_self {cs : List Int} {x : Nat} (h : x < cs.length) (v : Int) : (cs.set x v).take (x + 1) = cs.take x ++ [v] := by
  rw [List.take_add_one, List.getElem?_set_self h, List.take_set_of_le (Nat.le_refl x)]
  rfl
def okL (l : List (List Int)) : Bool := Nat.ble l.length 300
theorem okL_t {l : List (List Int)} (h : l.length ≤ 300) : okL l = true := Nat.ble_eq_true_of_le h
theorem okL_f {l : List (List Int)} (h : ¬ l.length ≤ 300) : okL l = false := by
  cases hq : okL l with
  | false => rfl
  | true => exact absurd (Nat.le_of_ble_eq_true hq) h
theorem okL_ile (l : List (List Int)) : ile (l.length : Int) 300 = okL l := by
  by_cases h : l.length ≤ 300
  · rw [okL_t h, ile_t (by omega)]
  · rw [okL_f h, ile_f (by omega)]
theorem colFrom_eq {N : Nat} (hN : 1048577 ≤ N) {k m : Nat} {es : List (Int × Int)} (hg : goodG ((m : Int), es)) (hx : es.length ≤ 1048576) (hk : k ≤ 5) : ∀ (d x : Nat) (cs : List Int) (l : List (List Int)) (K : Nat), x + d = m → d < K → l.length ≤ 300 → cs.length = m →
    ∃ cs', Zq9_r N K (x : Int) ((m : Int), es) l cs (k : Int) () = some ((okL (moreC k es d (cs.take x) l), ()), (moreC k es d (cs.take x) l, cs', ())) ∧ cs'.length = m ∧ cs'.take x = cs.take x := by
  have hm := hg.1
  simp only at hm
  intro d
  induction d with
  | zero =>
    intro x cs l K hd hK hl hcs
    obtain ⟨K, rfl⟩ := succ_of hK
    refine ⟨cs, ?_, hcs, rfl⟩
    unfold Zq9_r Zq9_b
    simp only []
    rw [ieq_t (by omega), br_t, Clone_eq (by omega), bind_some', room_ok (by simp; omega), chk_t, List.take_of_length_le (by omega)]
    simp only [moreC, tApp_d, tLen_n, okL_ile]
  | succ d ih =>
    intro x cs l K hd hK hl hcs
    obtain ⟨K, rfl⟩ := succ_of hK
    have hxm : x < m := by omega
    unfold Zq9_r Zq9_b
    simp only []
    rw [ieq_f (by omega), br_f]
    have go : ∀ (r c : Nat) (l : List (List Int)) (cs1 : List Int) (K' : Nat), c + r = k → r < K' → l.length ≤ 300 → cs1.length = m → cs1.take x = cs.take x →
        ∃ cs', Zq9_l0 N (Zq9_r N K) (fun x1 o o1 => some ((x1, ()), (o, o1, ()))) (fun o2 o3 => some ((true, ()), (o2, o3, ()))) K' ((m : Int), es) ((m : Int), es) (k : Int) (k : Int) (c : Int) l cs1 (x : Int) =
          some ((okL (stepsC (fun c l => if freeC es (cs.take x) (c : Int) then moreC k es d (cs.take x ++ [(c : Int)]) l else l) r c l), ()), (stepsC (fun c l => if freeC es (cs.take x) (c : Int) then moreC k es d (cs.take x ++ [(c : Int)]) l else l) r c l, cs', ())) ∧ cs'.length = m ∧ cs'.take x = cs.take x := by
      intro r
      induction r with
      | zero =>
        intro c l cs1 K' hr hK' hl h1 h2
        obtain ⟨K', rfl⟩ := succ_of hK'
        refine ⟨cs1, ?_, h1, h2⟩
        simp only [Zq9_l0, ilt_nf (show ¬ c < k by omega), br_f, stepsC]
        rw [okL_t hl]
      | succ r ihr =>
        intro c l cs1 K' hr hK' hl h1 h2
        obtain ⟨K', rfl⟩ := succ_of hK'
        simp only [Zq9_l0, ilt_n (show c < k by omega), br_t]
        rw [neighbors_eq hg hx hN, bind_some', colFree_eq hN hg hx h1 hxm, bind_some', inb_n (by omega), chk_t, h2, wrap_succ (show x < 4611686018427387904 by omega), wrap_succ (show c < 4611686018427387904 by omega)]
        unfold stepsC
        rw [if_pos hl]
        have h3 : (tSet cs1 (x : Int) (c : Int)).length = m := by rw [tSet_n, List.length_set]; exact h1
        have h4 : (tSet cs1 (x : Int) (c : Int)).take (x + 1) = cs.take x ++ [(c : Int)] := by rw [tSet_n, take_set_self (by omega), h2]
        have h5 : (tSet cs1 (x : Int) (c : Int)).take x = cs.take x := by rw [tSet_n, List.take_set_of_le (Nat.le_refl x), h2]
        by_cases hf : freeC es (cs.take x) (c : Int)
        · rw [decide_eq_true hf, Bool.not_true, Bool.not_false, br_t]
          obtain ⟨cs2, e1, e2, e3⟩ := ih (x + 1) (tSet cs1 (x : Int) (c : Int)) l K (by omega) (by omega) hl h3
          rw [e1, bind_some', h4]
          rw [h4] at e3
          have e4 : cs2.take x = cs.take x := by
            have := congrArg (List.take x) e3
            rw [List.take_take, List.take_left' (by simp; omega)] at this
            rwa [Nat.min_eq_left (by omega)] at this
          simp only [if_pos hf]
          by_cases h6 : (moreC k es d (cs.take x ++ [(c : Int)]) l).length ≤ 300
          · rw [okL_t h6, Bool.not_true, br_f]
            exact ihr (c + 1) _ cs2 K' (by omega) (by omega) h6 e2 e4
          · rw [okL_f h6, Bool.not_false, br_t]
            have h7 : ∀ r c, stepsC (fun c l => if freeC es (cs.take x) (c : Int) then moreC k es d (cs.take x ++ [(c : Int)]) l else l) r c (moreC k es d (cs.take x ++ [(c : Int)]) l) = moreC k es d (cs.take x ++ [(c : Int)]) l ∨ True := fun _ _ => .inr trivial
            have h8 : stepsC (fun c l => if freeC es (cs.take x) (c : Int) then moreC k es d (cs.take x ++ [(c : Int)]) l else l) r (c + 1) (moreC k es d (cs.take x ++ [(c : Int)]) l) = moreC k es d (cs.take x ++ [(c : Int)]) l := by
              cases r with
              | zero => rfl
              | succ r => unfold stepsC; rw [if_neg h6]
            rw [h8]
            exact ⟨cs2, by rw [okL_f h6], e2, e4⟩
        · rw [decide_eq_false hf, Bool.not_false, Bool.not_true, br_f]
          simp only [if_neg hf]
          exact ihr (c + 1) l _ K' (by omega) (by omega) hl h3 h5
    have := go k 0 l cs N (by omega) (by omega) hl hcs rfl
    rw [show ((0 : Nat) : Int) = 0 from rfl] at this
    exact this
noncomputable def allC (g : Int × List (Int × Int)) (k : Int) : List (List Int) := moreC k.toNat g.2 g.1.toNat [] []
noncomputable def colsR (g : Int × List (Int × Int)) (k : Int) : List (List Int) × Bool := if colCase g k ∧ (allC g k).length ≤ 300 then (allC g k, true) else ([], false)
theorem allC_rows {g : Int × List (Int × Int)} {k : Int} : ∀ x ∈ allC g k, x.length = g.1.toNat := moreC_rows (k := k.toNat) (es := g.2) (m := g.1.toNat) g.1.toNat [] [] (by simp) (by simp)
theorem colsR_ok (g : Int × List (Int × Int)) (k : Int) : (colsR g k).1.length ≤ 300 ∧ ∀ x ∈ (colsR g k).1, x.length ≤ 8 := by
  unfold colsR
  by_cases h : colCase g k ∧ (allC g k).length ≤ 300
  · rw [if_pos h]
    refine ⟨h.2, fun x hx => ?_⟩
    have := allC_rows x hx
    have := h.1.1.1
    omega
  · rw [if_neg h]
    simp
theorem l5All_eq {N : Nat} {g : Int × List (Int × Int)} {k : Int} (hx : g.2.length ≤ 1048576) (hN : 1048577 ≤ N) : Zq111 N g k = some (((colsR g k).1, (colsR g k).2, ()), ()) := by
  unfold Zq111 colsR
  rw [show ((g.1, g.2) : Int × List (Int × Int)) = g from rfl, l5Ask_eq hx hN, bind_some']
  by_cases h : colCase g k
  · rw [decide_eq_true h, Bool.not_true, br_f]
    obtain ⟨m, es⟩ := g
    obtain ⟨hg, h1, h2⟩ := h
    have hm := hg.1
    simp only at hm
    obtain ⟨m, rfl⟩ := Int.eq_ofNat_of_zero_le hm.1
    obtain ⟨k, rfl⟩ := Int.eq_ofNat_of_zero_le (show 0 ≤ k by omega)
    have := l5More_eq hN (k := k) (m := m) (es := es) hx (by omega) (by omega) m [] [] N (by simp) (by omega) (by simp)
    unfold Zq117
    simp only [Int.ofNat_eq_natCast] at *
    rw [this, bind_some']
    have e : allC ((m : Int), es) (k : Int) = moreC k es m [] [] := by simp [allC]
    rw [e]
    simp only [tLen_n]
    have hc : colCase ((m : Int), es) (k : Int) := ⟨hg, h1, h2⟩
    by_cases h3 : (moreC k es m [] []).length ≤ 300
    · rw [ilt_f (by omega), br_f, if_pos ⟨hc, h3⟩]
    · rw [ilt_t (by omega), br_t, if_neg fun h => h3 h.2]
  · rw [decide_eq_false h, Bool.not_false, br_t, if_neg fun h' => h h'.1]
end Go.Proofs.YtkffaahlpdlkoaaGreat
