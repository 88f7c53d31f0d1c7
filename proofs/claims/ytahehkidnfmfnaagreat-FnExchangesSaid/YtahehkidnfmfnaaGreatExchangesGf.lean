/- Statements on data alone. -/
import Derived.Test.YtahehkidnfmfnaaGreatPvPure
import Derived.Test.YtahehkidnfmfnaaGreatExchangesGe
set_option linter.all false
set_option linter.all false
namespace Go.Proofs.YtahehkidnfmfnaaGreat
open Go Go.PV Classical
theorem nodes_ok {N : Nat} {code : List Int} {k : Nat} {c : List Int × (Int × Int)} {g : Int × List (Int × Int)} (hco : codeOk code) (hN : 1048577 ≤ N) (h : CurOk code k c) (hk : k ≤ 800000) : ∃ s c', Zq90 N c g = some ((s, ()), (c', ())) ∧ CurOk code (k + 8) c' ∧ s.length ≤ 9 := by
 unfold Zq90
 rw [l1Least_eq, bind_some', l1Most_eq, bind_some']
 simp only []
 obtain ⟨m, hm, hm8⟩ : ∃ m : Nat, (if 0 < (if g.1 < 8 then g.1 else 8) then (if g.1 < 8 then g.1 else 8) else 0) = (m : Int) ∧ m ≤ 8 := by
  refine ⟨(if 0 < (if g.1 < 8 then g.1 else 8) then (if g.1 < 8 then g.1 else 8) else 0).toNat, ?_, ?_⟩ <;> split <;> split <;> omega
 rw [hm]
 obtain ⟨x, c1, a1, a2, a3, a4, a5⟩ := pick_ok (N := N) hco h (by omega) 256
 have a5 := a5 (by omega)
 obtain ⟨a, rfl⟩ : ∃ a : Nat, x = (a : Int) := ⟨x.toNat, by omega⟩
 rw [a1, bind_some']
 simp only []
 rw [l2Bits_set hm8 (by omega) hN, bind_some']
 simp only []
 have hl := setOf_len m a
 obtain ⟨b, c2, b1, b2⟩ := one_ok (N := N) hco a2 (by omega) 20
 rw [b1, bind_some']
 simp only []
 cases b with
 | true =>
  obtain ⟨y, c3, d1, d2, _⟩ := among_ok (N := N) hco b2 (by omega) (l := [-1, 0, 8]) (by simp)
  rw [br_t, d1, bind_some', room_ok (by simp; omega), chk_t]
  exact ⟨_, c3, rfl, cur_mono d2 (by omega), by rw [tApp_d]; simp; omega⟩
 | false =>
  rw [br_f]
  exact ⟨_, c2, rfl, cur_mono b2 (by omega), by omega⟩
theorem ofKind_ok {N : Nat} {code : List Int} {k : Nat} {c : List Int × (Int × Int)} {g : Int × List (Int × Int)} {kind : Int} (hco : codeOk code) (hN : 1048577 ≤ N) (h : CurOk code k c) (hk : k ≤ 700000) (hx : g.2.length ≤ 1048576) : ∃ s c', Zq91 N c g kind = some ((s, ()), (c', ())) ∧ CurOk code (k + 12) c' ∧ s.length ≤ 9 := by
 unfold Zq91
 simp only [show ((g.1, g.2) : Int × List (Int × Int)) = g from rfl]
 rw [l4Good_eq hx hN, bind_some']
 by_cases hg : goodG g ∧ 1 ≤ kind ∧ kind ≤ 3
 ·rw [decide_eq_true hg]
  simp only [Bool.not_true, br_f]
  obtain ⟨b, c1, a1, a2⟩ := one_ok (N := N) hco h (by omega) 8
  rw [a1, bind_some']
  simp only []
  cases b with
  | true =>
   obtain ⟨s, c2, b1, b2, b3⟩ := nodes_ok (N := N) (g := g) hco hN a2 (by omega)
   rw [br_t, b1, bind_some']
   exact ⟨s, c2, rfl, cur_mono b2 (by omega), b3⟩
  | false =>
   rw [br_f]
   obtain ⟨m, hm⟩ : ∃ m : Nat, g.1 = (m : Int) := ⟨g.1.toNat, by have := hg.1.1; omega⟩
   obtain ⟨g1, es⟩ := g
   simp only at hm hx ⊢
   subst hm
   have hm8 : m ≤ 8 := by have := hg.1.1; simp only at this; omega
   obtain ⟨L, l1, l2⟩ := l4Sets_KL (N := N) (kind := kind) hm8 hx hN
   have hp := kind_some hg.1 l2
   rw [l1, bind_some']
   simp only []
   obtain ⟨x, c2, b1, b2, b3, b4, b5⟩ := pick_ok (N := N) hco a2 (by omega) (tLen L)
   have b5 := b5 (by rw [tLen_n]; omega)
   rw [tLen_n] at b5
   rw [b1, bind_some']
   simp only []
   obtain ⟨i, rfl⟩ : ∃ i : Nat, x = (i : Int) := ⟨x.toNat, by omega⟩
   have hi : i < L.length := by omega
   obtain ⟨⟨A, _, e⟩, _⟩ := (l2.2.2 _).1 (List.getElem_mem hi)
   have hl := setOf_len m A
   rw [inb_n hi, chk_t, rdL_n hi, e, l1Own_eq (by omega), bind_some']
   exact ⟨setOf m A, c2, rfl, cur_mono b2 (by omega), by omega⟩
 ·rw [decide_eq_false hg]
  simp only [Bool.not_false, br_t]
  obtain ⟨s, c2, b1, b2, b3⟩ := nodes_ok (N := N) (g := g) hco hN h (by omega)
  rw [b1, bind_some']
  exact ⟨s, c2, rfl, cur_mono b2 (by omega), b3⟩
theorem bigG_ok {N : Nat} {code : List Int} {k : Nat} {c : List Int × (Int × Int)} (hco : codeOk code) (hN : 1048577 ≤ N) (h : CurOk code k c) (hk : k ≤ 90000) : ∃ (g : Int × List (Int × Int)) (c' : List Int × (Int × Int)), Zq86 N c = some (((g.1, g.2), ()), (c', ())) ∧ CurOk code (k + 200) c' ∧ g.2.length ≤ 100 := by
 unfold Zq86
 obtain ⟨g, c', e1, e2, e3⟩ := someGraph_ok (N := N) (most := 8) hco hN h hk (by omega)
 rw [e1, bind_some']
 exact ⟨g, c', rfl, e2, e3⟩
theorem br_same {R : Type} (b : Bool) (x : Option R) : br b x x = x := by cases b <;> rfl
theorem thr_nbs {m A : Nat} {ys : List (List Int)} (hA : A < 2 ^ m) (h : ∀ s ∈ ys, ∃ a : Nat, a < 2 ^ m ∧ s = setOf m a) : ∀ b ∈ ys, addP (setOf m A) b = true → b ∈ (List.range m).map fun x => setOf m (A ^^^ 2 ^ x) := fun b hb hp => by
 obtain ⟨B, hB, rfl⟩ := h b hb
 obtain ⟨x, hx, rfl⟩ := (addP_iff hA hB).1 hp
 exact List.mem_map.2 ⟨x, List.mem_range.2 hx, rfl⟩
theorem thr_steps {m : Nat} {ys : List (List Int)} (hm : m ≤ 8) (h : ∀ s ∈ ys, ∃ a : Nat, a < 2 ^ m ∧ s = setOf m a) (hs : lexSorted ys) : ys.length ≤ 256 ∧ (stepsL addP ys).length ≤ 6000 := by
 have h256 := pow256 hm
 have h1 := lex_small hs h
 have := steps_half (p := addP) (xs := ys) (B := 8) (fun a _ b _ => addP_symm) fun i hi => by
  obtain ⟨A, hA, e⟩ := h (rdL ys (i : Int)) (by rw [rdL_n hi]; exact List.getElem_mem hi)
  refine Nat.le_trans (numP_le (p := fun b => addP (rdL ys (i : Int)) b) (lex_nodup hs) (L := (List.range m).map fun x => setOf m (A ^^^ 2 ^ x)) fun b hb hp => thr_nbs hA h b hb (by rw [← e]; exact hp)) ?_
  simpa using hm
 omega
theorem thr_rows {m : Nat} {ys : List (List Int)} (hm : m ≤ 8) (h : ∀ s ∈ ys, ∃ a : Nat, a < 2 ^ m ∧ s = setOf m a) : ∀ x ∈ ys, x.length ≤ 24 ∧ ∀ z ∈ x, -99 ≤ z ∧ z ≤ 99 := fun x hx => by
 obtain ⟨A, _, rfl⟩ := h x hx
 have := setOf_len m A
 refine ⟨by omega, fun z hz => ?_⟩
 obtain ⟨i, hi, _, rfl⟩ := mem_setOf.1 hz
 omega
theorem Thr_st {N : Nat} {g : Int × List (Int × Int)} {kind k : Int} (hx : g.2.length ≤ 1048576) (hN : 1048577 ≤ N) (h : thrCase g kind k) : ∃ ys, ThSt g.1.toNat g.2 kind k ys ∧ okSp (ys, stepsL addP ys) ∧ Zq84 N g kind k = some (((ys, stepsL addP ys), true, ()), ()) ∧ Zq29 N g kind k = some (((ys, stepsL addP ys), true, ()), ()) := by
 unfold Zq84 Zq29
 simp only [show ((g.1, g.2) : Int × List (Int × Int)) = g from rfl]
 rw [l4K_eq hx hN, isThr_eq hx hN, bind_some', bind_some', decide_eq_true h]
 simp only [Bool.not_true, br_f]
 obtain ⟨hg, hk, hk2⟩ := h
 have hg1 := hg.1
 obtain ⟨m, hm⟩ : ∃ m : Nat, g.1 = (m : Int) := ⟨g.1.toNat, by omega⟩
 obtain ⟨g1, es⟩ := g
 simp only [] at hm hx hg1
 subst hm
 obtain ⟨ys, y1, y2⟩ := l4Thr_eq (kind := kind) (k := k) (m := m) (by omega) hx hN
 have y3 := threshold_eq (by omega) hg hx y1 hN
 have hin : ∀ s ∈ ys, ∃ a : Nat, a < 2 ^ m ∧ s = setOf m a := fun s hs => ((y1.2 s).1 hs).1
 refine ⟨ys, y1, exSp_ok (es := es) (kind := kind) (k := 0) (by omega) hin y1.1, ?_, ?_⟩
 ·rw [y2, bind_some']
 ·rw [y3, bind_some']
theorem FirstWay_of {N : Nat} {xs : List (List Int)} {st : List (Int × Int)} {i j : Nat} (h1 : xs.length ≤ 300) (h2 : st.length ≤ 6000) (hs : ∀ x ∈ xs, x.length ≤ 24 ∧ ∀ z ∈ x, -99 ≤ z ∧ z ≤ 99) (hl : lexSorted xs) (h : okSt xs.length st) (hi : i < xs.length) (hj : j < xs.length) (hN : 1048577 ≤ N) :
  Zq5 N (xs, st) (i : Int) (j : Int) = some ((wayI xs st i j, decide (wayI xs st i j ≠ []), ()), ()) := by
 unfold Zq5 Zq25
 simp only []
 rw [isSpace_ok h1 h2 hs hl h hN, bind_some']
 simp only [between_eq, bind_some', Bool.not_true, br_f]
 rw [tLen_n, wrap_ok (by omega) (by omega), decide_eq_true (show 0 ≤ (i : Int) ∧ (i : Int) ≤ (xs.length : Int) - 1 by omega), decide_eq_true (show 0 ≤ (j : Int) ∧ (j : Int) ≤ (xs.length : Int) - 1 by omega)]
 simp only [Bool.not_true, br_f]
 rw [firstWay_eq (by omega) (by omega) h hi hj hN, bind_some']
noncomputable def ddN {α : Type} (d : α) (xs : List α) : Nat → List α
 | 0 => []
 | n + 1 => if 0 < n ∧ xs.getD n d = xs.getD (n - 1) d then ddN d xs n else ddN d xs n ++ [xs.getD n d]
theorem ddN_succ {α : Type} {d : α} {xs : List α} {n : Nat} (hn : n < xs.length) : ddN d xs (n + 1) = if 0 < n ∧ xs[n] = xs[n - 1] then ddN d xs n else ddN d xs n ++ [xs[n]] := by
 have e1 : xs.getD n d = xs[n] := by simp [hn]
 have e2 : xs.getD (n - 1) d = xs[n - 1] := by simp [show n - 1 < xs.length by omega]
 show (if 0 < n ∧ xs.getD n d = xs.getD (n - 1) d then ddN d xs n else ddN d xs n ++ [xs.getD n d]) = _
 rw [e1, e2]
theorem ddN_len {α : Type} {d : α} {xs : List α} : ∀ n, (ddN d xs n).length ≤ n := by
 intro n
 induction n with
 | zero => exact Nat.le_refl 0
 | succ n ih =>
  unfold ddN
  split
  ·omega
  ·rw [List.length_append, List.length_singleton]
   omega
theorem take_snoc {α : Type} {xs : List α} {n : Nat} (hn : n < xs.length) : xs.take (n + 1) = xs.take n ++ [xs[n]] := (List.take_append_getElem hn).symm
theorem ddN_sorted {α : Type} {d : α} {R : α → α → Prop} (ht : ∀ {a b c : α}, R a b → R b c → R a c) (hti : ∀ {a b : α}, ¬ R b a → a ≠ b → R a b) {xs : List α} (hs : xs.Pairwise fun a b => ¬ R b a) :
  ∀ n, n ≤ xs.length → (ddN d xs n).Pairwise R ∧ (∀ a, a ∈ ddN d xs n ↔ a ∈ xs.take n) ∧ ∀ a ∈ ddN d xs n, ∀ (h : n - 1 < xs.length), a = xs[n - 1] ∨ R a xs[n - 1] := by
 intro n
 induction n with
 | zero => intro _; exact ⟨List.Pairwise.nil, fun a => by simp [ddN], fun a ha => by cases ha⟩
 | succ n ih =>
  intro hn
  have hn' : n < xs.length := by omega
  obtain ⟨i1, i2, i3⟩ := ih (by omega)
  rw [ddN_succ hn']
  split
  ·rename_i h
   have hm : xs[n] ∈ xs.take n := by
    rw [h.2]
    exact List.mem_take_iff_getElem.2 ⟨n - 1, by omega, rfl⟩
   refine ⟨i1, fun a => ?_, fun a ha hk => ?_⟩
   ·rw [i2 a, take_snoc hn', List.mem_append, List.mem_singleton]
    constructor
    ·exact .inl
    ·rintro (h1 | h1)
     ·exact h1
     ·rw [h1]; exact hm
   ·have := i3 a ha (by omega)
    simp only [Nat.add_sub_cancel]
    rw [h.2]
    exact this
  ·rename_i h
   have key : ∀ a ∈ ddN d xs n, R a xs[n] := fun a ha => by
    have h0 : 0 < n := by
     rcases Nat.eq_zero_or_pos n with e | e
     ·subst e; cases ha
     ·exact e
    have hne : xs[n - 1] ≠ xs[n] := fun e => h ⟨h0, e.symm⟩
    have h1 := List.pairwise_iff_getElem.1 hs (n - 1) n (by omega) hn' (by omega)
    have h2 := hti h1 hne
    rcases i3 a ha (by omega) with e | e
    ·rw [e]; exact h2
    ·exact ht e h2
   refine ⟨List.pairwise_append.2 ⟨i1, List.pairwise_singleton _ _, fun a ha b hb => by rw [List.mem_singleton.1 hb]; exact key a ha⟩, fun a => ?_, fun a ha hk => ?_⟩
   ·rw [List.mem_append, i2 a, take_snoc hn', List.mem_append]
   ·simp only [Nat.add_sub_cancel]
    rcases List.mem_append.1 ha with h1 | h1
    ·exact .inr (key a h1)
    ·exact .inl (List.mem_singleton.1 h1)
theorem in2 {a b : Int} (h0 : 0 ≤ a) (h : a < b) : (ile 0 a && ilt a b) = true := by rw [ile_t h0, ilt_t h]; rfl
theorem in3 {a b c : Int} (h0 : 0 ≤ a) (h : a ≤ b) (h' : b ≤ c) : (ile 0 a && ile a b && ile b c) = true := by rw [ile_t h0, ile_t h, ile_t h']; rfl
theorem put_len {α : Type} {xs ys : List α} {q : Nat} (h : q + ys.length = xs.length) : (tPut xs (q : Int) ys).length = xs.length := by
 unfold tPut
 rw [Int.toNat_natCast, List.length_append, List.length_append, List.length_take, List.length_drop]
 omega
theorem put_take {α : Type} {xs ys : List α} {q : Nat} (h : q ≤ xs.length) : tCut (tPut xs (q : Int) ys) 0 (q : Int) = xs.take q := by
 have e : tCut (tPut xs (q : Int) ys) 0 (q : Int) = (tPut xs (q : Int) ys).take q := by
  unfold tCut
  rw [Int.toNat_natCast]
  rfl
 rw [e]
 unfold tPut
 rw [Int.toNat_natCast, List.append_assoc, List.take_append_of_le_length (by rw [List.length_take]; omega), List.take_take, Nat.min_self]
theorem rep_len {α : Type} {d : α} {n q : Nat} (h : q ≤ n) : (tRep ((n : Int) - (q : Int)) d).length = n - q := by
 unfold tRep
 rw [List.length_replicate]
 omega
theorem get_of {α : Type} {o xs : List α} {j : Nat} (hj : j < xs.length) (hl : o.length = xs.length) (h : o[j]? = xs[j]?) : o[j]'(by omega) = xs[j] := by
 rw [List.getElem?_eq_getElem (by omega), List.getElem?_eq_getElem hj] at h
 injection h
theorem dd_small {α : Type} {d : α} {xs : List α} (h : xs.length < 2) : ddN d xs xs.length = xs := by
 match xs, h with
 | [], _ => rfl
 | [x], _ => simp [ddN]
 | _ :: _ :: _, h => simp at h; omega
theorem pair_dec (a b : Int × Int) : (ieq a.1 b.1 && ieq a.2 b.2) = decide (a = b) := by
 by_cases h : a = b
 ·subst h
  rw [ieq_t rfl, ieq_t rfl, decide_eq_true rfl]; rfl
 ·rw [decide_eq_false h]
  by_cases h1 : a.1 = b.1
  ·rw [ieq_f fun h2 => h (Prod.ext h1 h2)]
   simp
  ·rw [ieq_f h1]; rfl
theorem cfun_in {R : Type} {N : Nat} {xs : List (List Int)} {f : List Int → List Int → Option Bool} (hf : ∀ a ∈ xs, ∀ b ∈ xs, f a b = some (decide (a = b))) (hx : xs.length ≤ 1048576) {k0 : Int → List (List Int) → Option R} {s : Nat} (hs : 1 ≤ s) :
  ∀ (d m K q : Nat) (o : List (List Int)), s + m + d = xs.length → d < K → 1 ≤ m → q = (ddN [] xs (s + m)).length → q ≤ s + m - 1 → o.length = xs.length → (∀ j, s + m - 1 ≤ j → o[j]? = xs[j]?) → o.take q = ddN [] xs (s + m) →
   ∃ o' : List (List Int), Zq63_l0_0 N k0 K f (q : Int) (s : Int) (xs.length : Int) (m : Int) o = k0 ((ddN [] xs xs.length).length : Int) o' ∧ o'.length = xs.length ∧ o'.take (ddN [] xs xs.length).length = ddN [] xs xs.length := by
 intro d
 induction d with
 | zero =>
  intro m K q o hd hK hm hq hq2 hl ho ht
  obtain ⟨K, rfl⟩ := succ_of hK
  simp only [Zq63_l0_0]
  rw [ilt_f (by omega), br_f]
  have e : s + m = xs.length := by omega
  rw [e] at hq ht
  subst hq
  exact ⟨o, rfl, hl, ht⟩
 | succ d ih =>
  intro m K q o hd hK hm hq hq2 hl ho ht
  obtain ⟨K, rfl⟩ := succ_of hK
  simp only [Zq63_l0_0]
  have hsm : s + m < xs.length := by omega
  have e1 : (s : Int) + (m : Int) = ((s + m : Nat) : Int) := rfl
  have e2 : (s : Int) + ((m - 1 : Nat) : Int) = ((s + m - 1 : Nat) : Int) := by omega
  have g1 : o[s + m]'(by omega) = xs[s + m] := get_of hsm hl (ho _ (by omega))
  have g2 : o[s + m - 1]'(by omega) = xs[s + m - 1] := get_of (by omega) hl (ho _ (by omega))
  rw [wrap_pred (by omega) (by omega), in2 (a := (m : Int)) (b := (xs.length : Int) - (s : Int)) (by omega) (by omega), in2 (a := ((m - 1 : Nat) : Int)) (b := (xs.length : Int) - (s : Int)) (by omega) (by omega), ilt_t (a := (m : Int)) (b := (xs.length : Int) - (s : Int)) (by omega), br_t]
  simp only [chk_t]
  rw [e1, e2, rdL_n (by omega), rdL_n (by omega), g1, g2, hf _ (List.getElem_mem _) _ (List.getElem_mem _), bind_some']
  have hdd := ddN_succ (d := []) hsm
  by_cases h : xs[s + m] = xs[s + m - 1]
  ·rw [if_pos ⟨by omega, h⟩] at hdd
   rw [decide_eq_true h, Bool.not_true, br_f, wrap_succ (by omega)]
   exact ih (m + 1) K q o (by omega) (by omega) (by omega) (by rw [← Nat.add_assoc, hdd]; exact hq) (by omega) hl (fun j hj => ho j (by omega)) (by rw [← Nat.add_assoc, hdd]; exact ht)
  ·rw [if_neg fun z => h z.2] at hdd
   rw [decide_eq_false h, Bool.not_false, br_t, inb_n (by omega), chk_t, wrap_succ (by omega), wrap_succ (by omega), tSet_n]
   refine ih (m + 1) K (q + 1) (o.set q xs[s + m]) (by omega) (by omega) (by omega) (by rw [← Nat.add_assoc, hdd, List.length_append, List.length_singleton, ← hq]) (by omega) (by rw [List.length_set]; exact hl) (fun j hj => ?_) ?_
   ·rw [List.getElem?_set_ne (by omega)]
    exact ho j (by omega)
   ·rw [← Nat.add_assoc, hdd, take_snoc (by rw [List.length_set]; omega), List.take_set_of_le (Nat.le_refl q), ht]
    simp
theorem cfun_eq {N : Nat} {xs : List (List Int)} {f : List Int → List Int → Option Bool} (hf : ∀ a ∈ xs, ∀ b ∈ xs, f a b = some (decide (a = b))) (hx : xs.length ≤ 1048576) (hN : 1048577 ≤ N) : Zq63 N xs f = some ((ddN [] xs xs.length, ()), ()) := by
 unfold Zq63
 by_cases h2 : xs.length < 2
 ·rw [tLen_n, ilt_t (by omega), br_t, dd_small h2]
 ·rw [tLen_n, ilt_f (by omega), br_f]
  have go : ∀ (d n K : Nat), n + d = xs.length → d < K → 1 ≤ n → ddN [] xs n = xs.take n → Zq63_l0 N (fun x x1 o => some (((tCut o x x1), ()), ())) (fun o1 => some ((o1, ()), ())) K f (n : Int) xs = some ((ddN [] xs xs.length, ()), ()) := by
   intro d
   induction d with
   | zero =>
    intro n K hd hK hn h
    obtain ⟨K, rfl⟩ := succ_of hK
    simp only [Zq63_l0]
    have e : n = xs.length := by omega
    subst e
    rw [tLen_n, ilt_f (by omega), br_f, h, List.take_length]
   | succ d ih =>
    intro n K hd hK hn h
    obtain ⟨K, rfl⟩ := succ_of hK
    simp only [Zq63_l0]
    have hnx : n < xs.length := by omega
    have hdd := ddN_succ (d := []) hnx
    rw [ilt_len hnx, br_t, inb_n hnx, chk_t, wrap_pred (by omega) (by omega), inb_n (by omega), chk_t, rdL_n hnx, rdL_n (by omega), hf _ (List.getElem_mem _) _ (List.getElem_mem _), bind_some']
    by_cases he : xs[n] = xs[n - 1]
    ·rw [if_pos ⟨by omega, he⟩] at hdd
     rw [decide_eq_true he, br_t, tLen_n, in3 (by omega) (by omega) (Int.le_refl _), chk_t]
     have hl : (ddN [] xs (n + 1)).length = n := by rw [hdd, h, List.length_take]; omega
     obtain ⟨o', p1, p2, p3⟩ := cfun_in (R := (List (List Int) × Unit) × Unit) (N := N) (s := n) (k0 := fun x2 o1 => (chk (ile 0 x2 && ile x2 (tLen o1) && ile (tLen o1) (tLen o1))
     (chk (ile 0 0 && ile 0 x2 && ile x2 (tLen (tPut o1 x2 (tRep ((tLen o1) - x2) []))))
     (some (((tCut (tPut o1 x2 (tRep ((tLen o1) - x2) [])) 0 x2), ()), ()))))) hf hx hn d 1 N n xs (by omega) (by omega) (Nat.le_refl 1) hl.symm (by omega) rfl (fun _ _ => rfl) (by rw [hdd, h])
     refine p1.trans ?_
     have hq := ddN_len (α := (List Int)) (d := []) (xs := xs) xs.length
     rw [tLen_n, p2, in3 (by omega) (by omega) (Int.le_refl _), chk_t]
     have hr := rep_len (α := (List Int)) (d := []) hq
     rw [tLen_n, put_len (by rw [p2, hr]; omega), p2, in3 (Int.le_refl 0) (by omega) (by omega), chk_t, put_take (by omega), p3]
    ·rw [if_neg fun z => he z.2] at hdd
     rw [decide_eq_false he, br_f, wrap_succ (by omega)]
     exact ih (n + 1) K (by omega) (by omega) (by omega) (by rw [hdd, h, take_snoc hnx])
  have h1 : ddN [] xs 1 = xs.take 1 := by
   rw [ddN_succ (n := 0) (by omega), if_neg fun z => Nat.lt_irrefl 0 z.1, take_snoc (n := 0) (by omega)]
   rfl
  exact go (xs.length - 1) 1 N (by omega) (by omega) (Nat.le_refl 1) h1
theorem cpt_in {R : Type} {N : Nat} {xs : List (Int × Int)} (hx : xs.length ≤ 1048576) {k0 : Int → List (Int × Int) → Option R} {s : Nat} (hs : 1 ≤ s) :
  ∀ (d m K q : Nat) (o : List (Int × Int)), s + m + d = xs.length → d < K → 1 ≤ m → q = (ddN (0, 0) xs (s + m)).length → q ≤ s + m - 1 → o.length = xs.length → (∀ j, s + m - 1 ≤ j → o[j]? = xs[j]?) → o.take q = ddN (0, 0) xs (s + m) →
   ∃ o' : List (Int × Int), Zq64_l0_0 N k0 K (q : Int) (s : Int) (xs.length : Int) (m : Int) o = k0 ((ddN (0, 0) xs xs.length).length : Int) o' ∧ o'.length = xs.length ∧ o'.take (ddN (0, 0) xs xs.length).length = ddN (0, 0) xs xs.length := by
 intro d
 induction d with
 | zero =>
  intro m K q o hd hK hm hq hq2 hl ho ht
  obtain ⟨K, rfl⟩ := succ_of hK
  simp only [Zq64_l0_0]
  rw [ilt_f (by omega), br_f]
  have e : s + m = xs.length := by omega
  rw [e] at hq ht
  subst hq
  exact ⟨o, rfl, hl, ht⟩
 | succ d ih =>
  intro m K q o hd hK hm hq hq2 hl ho ht
  obtain ⟨K, rfl⟩ := succ_of hK
  simp only [Zq64_l0_0]
  have hsm : s + m < xs.length := by omega
  have e1 : (s : Int) + (m : Int) = ((s + m : Nat) : Int) := rfl
  have e2 : (s : Int) + ((m - 1 : Nat) : Int) = ((s + m - 1 : Nat) : Int) := by omega
  have g1 : o[s + m]'(by omega) = xs[s + m] := get_of hsm hl (ho _ (by omega))
  have g2 : o[s + m - 1]'(by omega) = xs[s + m - 1] := get_of (by omega) hl (ho _ (by omega))
  rw [wrap_pred (by omega) (by omega), in2 (a := (m : Int)) (b := (xs.length : Int) - (s : Int)) (by omega) (by omega), in2 (a := ((m - 1 : Nat) : Int)) (b := (xs.length : Int) - (s : Int)) (by omega) (by omega), ilt_t (a := (m : Int)) (b := (xs.length : Int) - (s : Int)) (by omega), br_t]
  simp only [chk_t]
  rw [e1, e2, rdP_n (by omega), rdP_n (by omega), g1, g2, pair_dec]
  have hdd := ddN_succ (d := (0, 0)) hsm
  by_cases h : xs[s + m] = xs[s + m - 1]
  ·rw [if_pos ⟨by omega, h⟩] at hdd
   rw [decide_eq_true h, Bool.not_true, br_f, wrap_succ (by omega)]
   exact ih (m + 1) K q o (by omega) (by omega) (by omega) (by rw [← Nat.add_assoc, hdd]; exact hq) (by omega) hl (fun j hj => ho j (by omega)) (by rw [← Nat.add_assoc, hdd]; exact ht)
  ·rw [if_neg fun z => h z.2] at hdd
   rw [decide_eq_false h, Bool.not_false, br_t, inb_n (by omega), chk_t, wrap_succ (by omega), wrap_succ (by omega), tSet_n]
   refine ih (m + 1) K (q + 1) (o.set q xs[s + m]) (by omega) (by omega) (by omega) (by rw [← Nat.add_assoc, hdd, List.length_append, List.length_singleton, ← hq]) (by omega) (by rw [List.length_set]; exact hl) (fun j hj => ?_) ?_
   ·rw [List.getElem?_set_ne (by omega)]
    exact ho j (by omega)
   ·rw [← Nat.add_assoc, hdd, take_snoc (by rw [List.length_set]; omega), List.take_set_of_le (Nat.le_refl q), ht]
    simp
theorem cpt_eq {N : Nat} {xs : List (Int × Int)} (hx : xs.length ≤ 1048576) (hN : 1048577 ≤ N) : Zq64 N xs = some ((ddN (0, 0) xs xs.length, ()), ()) := by
 unfold Zq64
 by_cases h2 : xs.length < 2
 ·rw [tLen_n, ilt_t (by omega), br_t, dd_small h2]
 ·rw [tLen_n, ilt_f (by omega), br_f]
  have go : ∀ (d n K : Nat), n + d = xs.length → d < K → 1 ≤ n → ddN (0, 0) xs n = xs.take n → Zq64_l0 N (fun x x1 o => some (((tCut o x x1), ()), ())) (fun o1 => some ((o1, ()), ())) K (n : Int) xs = some ((ddN (0, 0) xs xs.length, ()), ()) := by
   intro d
   induction d with
   | zero =>
    intro n K hd hK hn h
    obtain ⟨K, rfl⟩ := succ_of hK
    simp only [Zq64_l0]
    have e : n = xs.length := by omega
    subst e
    rw [tLen_n, ilt_f (by omega), br_f, h, List.take_length]
   | succ d ih =>
    intro n K hd hK hn h
    obtain ⟨K, rfl⟩ := succ_of hK
    simp only [Zq64_l0]
    have hnx : n < xs.length := by omega
    have hdd := ddN_succ (d := (0, 0)) hnx
    rw [ilt_len hnx, br_t, inb_n hnx, chk_t, wrap_pred (by omega) (by omega), inb_n (by omega), chk_t, rdP_n hnx, rdP_n (by omega), pair_dec]
    by_cases he : xs[n] = xs[n - 1]
    ·rw [if_pos ⟨by omega, he⟩] at hdd
     rw [decide_eq_true he, br_t, tLen_n, in3 (by omega) (by omega) (Int.le_refl _), chk_t]
     have hl : (ddN (0, 0) xs (n + 1)).length = n := by rw [hdd, h, List.length_take]; omega
     obtain ⟨o', p1, p2, p3⟩ := cpt_in (R := (List (Int × Int) × Unit) × Unit) (N := N) (s := n) (k0 := fun x2 o1 => (chk (ile 0 x2 && ile x2 (tLen o1) && ile (tLen o1) (tLen o1))
     (chk (ile 0 0 && ile 0 x2 && ile x2 (tLen (tPut o1 x2 (tRep ((tLen o1) - x2) (0, 0)))))
     (some (((tCut (tPut o1 x2 (tRep ((tLen o1) - x2) (0, 0))) 0 x2), ()), ()))))) hx hn d 1 N n xs (by omega) (by omega) (Nat.le_refl 1) hl.symm (by omega) rfl (fun _ _ => rfl) (by rw [hdd, h])
     refine p1.trans ?_
     have hq := ddN_len (α := (Int × Int)) (d := (0, 0)) (xs := xs) xs.length
     rw [tLen_n, p2, in3 (by omega) (by omega) (Int.le_refl _), chk_t]
     have hr := rep_len (α := (Int × Int)) (d := (0, 0)) hq
     rw [tLen_n, put_len (by rw [p2, hr]; omega), p2, in3 (Int.le_refl 0) (by omega) (by omega), chk_t, put_take (by omega), p3]
    ·rw [if_neg fun z => he z.2] at hdd
     rw [decide_eq_false he, br_f, wrap_succ (by omega)]
     exact ih (n + 1) K (by omega) (by omega) (by omega) (by rw [hdd, h, take_snoc hnx])
  have h1 : ddN (0, 0) xs 1 = xs.take 1 := by
   rw [ddN_succ (n := 0) (by omega), if_neg fun z => Nat.lt_irrefl 0 z.1, take_snoc (n := 0) (by omega)]
   rfl
  exact go (xs.length - 1) 1 N (by omega) (by omega) (Nat.le_refl 1) h1
theorem SortFunc_dbl {N : Nat} {xs : List (List Int)} (hx : xs.length ≤ 1048576) (hl : ∀ x ∈ xs, x.length ≤ 1048576) (hN : 1048577 ≤ N) :
  ∃ ys, Zq74 N xs () = some ((), (ys, ())) ∧ ys.Perm xs ∧ ys.Pairwise fun a b => ¬ lexC b a < 0 := by
 have hc : ∀ a ∈ xs, ∀ b ∈ xs, (Zq65 N a b).map (fun z => z.1.1) = some (lexC a b) := fun a ha b hb => by rw [Compare_lex (hl a ha) (hl b hb) hN]; rfl
 have hv : ∀ a ∈ xs, ∀ b ∈ xs, cmpV (fun a b => (Zq65 N a b).map fun z => z.1.1) a b = lexC a b := fun a ha b hb => by
  show ((Zq65 N a b).map fun z => z.1.1).getD 0 = _
  rw [hc a ha b hb]
  rfl
 have htr : ∀ {a b c : List Int}, ¬ lexC a b < 0 → ¬ lexC b c < 0 → ¬ lexC a c < 0 := fun {a b c} h1 h2 h3 => by
  by_cases e : a = b
  ·exact h2 (e ▸ h3)
  ·exact h2 (lexC_trans (lexC_flip h1 e) h3)
 have hp : (xs.mergeSort fun a b => decide (¬ lexC b a < 0)).Perm xs := List.mergeSort_perm ..
 have hw : (xs.mergeSort fun a b => decide (¬ lexC b a < 0)).Pairwise fun a b => ¬ lexC b a < 0 := by
  have := List.pairwise_mergeSort (le := fun a b : List Int => decide (¬ lexC b a < 0)) (fun a b c h1 h2 => decide_eq_true (htr (of_decide_eq_true h2) (of_decide_eq_true h1))) (fun a b => by
   have := lexC_anti a b
   by_cases h : lexC b a < 0
   ·rw [decide_eq_true (p := ¬ lexC a b < 0) (by omega), Bool.or_true]
   ·rw [decide_eq_true (p := ¬ lexC b a < 0) h, Bool.true_or]) xs
  exact this.imp fun h => of_decide_eq_true h
 refine ⟨_, ?_, hp, hw⟩
 unfold Zq74
 refine sortF_eq ⟨⟨by omega, fun a ha b hb => ⟨_, hc a ha b hb⟩, fun a ha => ?_, fun a ha b hb c hc' h1 h2 => ?_, fun a ha b hb c hc' h1 h2 => ?_, fun a ha b hb h1 h2 => ?_⟩, hp, ?_⟩
 ·rw [hv a ha a ha, lexC_self]; decide
 ·rw [hv a ha b hb] at h1
  rw [hv b hb c hc'] at h2
  rw [hv a ha c hc']
  exact lexC_trans h1 h2
 ·rw [hv a ha b hb] at h1
  rw [hv b hb c hc'] at h2
  rw [hv a ha c hc']
  exact htr h1 h2
 ·rw [hv a ha b hb] at h1
  rw [hv b hb a ha] at h2
  have := lexC_anti a b
  exact lexC_eq (by omega)
 ·refine hw.imp_of_mem fun {a b} ha hb hab => ?_
  rw [hv b (hp.mem_iff.1 hb) a (hp.mem_iff.1 ha)]
  exact hab
theorem edge_trans {a b c : Int × Int} (h1 : edgeLt a b) (h2 : edgeLt b c) : edgeLt a c := by
 unfold edgeLt at *
 omega
theorem edge_tri {a b : Int × Int} (h1 : ¬ edgeLt b a) (h2 : a ≠ b) : edgeLt a b := by
 have h3 : ¬ (a.1 = b.1 ∧ a.2 = b.2) := fun h => h2 (Prod.ext h.1 h.2)
 unfold edgeLt at *
 omega
theorem edge_irr (a : Int × Int) : ¬ edgeLt a a := by
 unfold edgeLt
 omega
theorem SortFunc_prs {N : Nat} {xs : List (Int × Int)} (hx : xs.length ≤ 1048576) (hN : 1048577 ≤ N) :
  ∃ ys, Zq75 N xs () = some ((), (ys, ())) ∧ ys.Perm xs ∧ ys.Pairwise fun a b => ¬ edgeLt b a := by
 have hc : ∀ a b, ∃ r : Int, (Zq35 N a b).map (fun z => z.1.1) = some r ∧ cmpP (fun a b => (Zq35 N a b).map fun z => z.1.1) a b = r ∧ (r < 0 ↔ edgeLt a b) := fun a b => by
  obtain ⟨r, h1, h2, _⟩ := comparePairs_eq hN a b
  refine ⟨r, by rw [h1]; rfl, ?_, h2⟩
  show ((Zq35 N a b).map fun z => z.1.1).getD 0 = r
  rw [h1]
  rfl
 have hv : ∀ a b, (cmpP (fun a b => (Zq35 N a b).map fun z => z.1.1) a b < 0 ↔ edgeLt a b) := fun a b => by
  obtain ⟨r, _, h2, h3⟩ := hc a b
  rw [h2]
  exact h3
 have htr : ∀ {a b c : Int × Int}, ¬ edgeLt a b → ¬ edgeLt b c → ¬ edgeLt a c := fun {a b c} h1 h2 h3 => by
  by_cases e : a = b
  ·exact h2 (e ▸ h3)
  ·exact h2 (edge_trans (edge_tri h1 (Ne.symm e)) h3)
 have hp : (xs.mergeSort fun a b => decide (¬ edgeLt b a)).Perm xs := List.mergeSort_perm ..
 have hw : (xs.mergeSort fun a b => decide (¬ edgeLt b a)).Pairwise fun a b => ¬ edgeLt b a := by
  have := List.pairwise_mergeSort (le := fun a b : Int × Int => decide (¬ edgeLt b a)) (fun a b c h1 h2 => decide_eq_true (htr (of_decide_eq_true h2) (of_decide_eq_true h1))) (fun a b => by
   by_cases h : edgeLt b a
   ·rw [decide_eq_true (p := ¬ edgeLt a b) fun h2 => edge_irr a (edge_trans h2 h), Bool.or_true]
   ·rw [decide_eq_true (p := ¬ edgeLt b a) h, Bool.true_or]) xs
  exact this.imp fun h => of_decide_eq_true h
 refine ⟨_, ?_, hp, hw⟩
 unfold Zq75
 refine sortPF_eq ⟨⟨by omega, fun a ha b hb => ⟨_, (hc a b).choose_spec.1⟩, fun a ha => ?_, fun a ha b hb c hc' h1 h2 => ?_, fun a ha b hb c hc' h1 h2 => ?_, fun a ha b hb h1 h2 => ?_⟩, hp, ?_⟩
 ·rw [hv]; exact edge_irr a
 ·rw [hv] at *
  exact edge_trans h1 h2
 ·rw [hv] at *
  exact htr h1 h2
 ·rw [hv] at h1 h2
  exact Classical.byContradiction fun e => h1 (edge_tri h2 e)
 ·refine hw.imp fun {a b} hab => ?_
  rw [hv]
  exact hab
theorem okSt_edge {n : Nat} {st : List (Int × Int)} (h : okSt n st) : st.Pairwise edgeLt := h.1.imp fun h => h
theorem edge_nodup {st : List (Int × Int)} (h : st.Pairwise edgeLt) : st.Nodup := by
 refine List.Pairwise.imp (fun {a b} (hab : edgeLt a b) => (fun e : a = b => ?_ : a ≠ b)) h
 subst e
 exact edge_irr a hab
theorem edge_ext {xs ys : List (Int × Int)} (hx : xs.Pairwise edgeLt) (hy : ys.Pairwise edgeLt) (h : ∀ s, s ∈ xs ↔ s ∈ ys) : xs = ys :=
 srt_uniqP ((List.perm_ext_iff_of_nodup (edge_nodup hx) (edge_nodup hy)).2 h) hx hy fun a _ b _ h1 h2 => absurd (edge_trans h1 h2) (edge_irr a)
theorem join_in {R : Type} {N : Nat} {xs : List (List Int)} (hl : lexSorted xs) (hx : xs.length ≤ 300) (hs : ∀ x ∈ xs, x.length ≤ 24) (hN : 1048577 ≤ N) {x2 x3 : Int} {o4 : List (Int × Int)} {o5 : List (List (List Int) × List (Int × Int))} {k0 : Int → Int → List (List (List Int) × List (Int × Int)) → List (List Int) → List (Int × Int) → Option R}
  {st : List (Int × Int)} (hst : okSt xs.length st) (hsl : st.length ≤ 6000) : ∀ (d n K : Nat) (o : List (Int × Int)), n + d = st.length → d < K → o.length ≤ 6000 + n →
   Zq21_l0_0 N k0 K x2 x3 st (st.length : Int) (n : Int) xs o4 o5 xs o = k0 x2 x3 o5 xs (o ++ st.drop n) := by
 intro d
 induction d with
 | zero =>
  intro n K o hd hK ho
  obtain ⟨K, rfl⟩ := succ_of hK
  simp only [Zq21_l0_0]
  rw [ilt_f (by omega), br_f, List.drop_of_length_le (by omega), List.append_nil]
 | succ d ih =>
  intro n K o hd hK ho
  obtain ⟨K, rfl⟩ := succ_of hK
  have hn : n < st.length := by omega
  obtain ⟨h1, h2, h3⟩ := hst.2 _ (List.getElem_mem hn)
  obtain ⟨i, hi⟩ : ∃ i : Nat, st[n].1 = (i : Int) := ⟨st[n].1.toNat, by omega⟩
  obtain ⟨j, hj⟩ : ∃ j : Nat, st[n].2 = (j : Int) := ⟨st[n].2.toNat, by omega⟩
  have hi' : i < xs.length := by omega
  have hj' : j < xs.length := by omega
  have hrow : ∀ x ∈ xs, x.length ≤ 1048576 := fun x hx => by have := hs x hx; omega
  have pi : ∀ o : List (Int × Int), Zq26 N (xs, o) xs[i] = some (((i : Int), true, ()), ()) := fun o => by
   rw [place_in hl (by omega) hrow (List.getElem_mem hi') hN, (lex_nodup hl).idxOf_getElem i hi']
  have pj : ∀ o : List (Int × Int), Zq26 N (xs, o) xs[j] = some (((j : Int), true, ()), ()) := fun o => by
   rw [place_in hl (by omega) hrow (List.getElem_mem hj') hN, (lex_nodup hl).idxOf_getElem j hj']
  simp only [Zq21_l0_0]
  rw [ilt_t (by omega), br_t, inb_n hn, chk_t, rdP_n hn, hi, hj, inb_n hi', chk_t, rdL_n hi', pi, bind_some', inb_n hj', chk_t, rdL_n hj', pj, bind_some']
  unfold Zq48
  rw [bind_some']
  simp only []
  rw [if_neg (by omega), if_pos (by omega), room_ok (by rw [List.length_singleton]; omega), chk_t, wrap_succ (by omega), tApp_d, ih (n + 1) K _ (by omega) (by omega) (by rw [List.length_append, List.length_singleton]; omega), List.append_assoc]
  rw [drop_cons hn, ← hi, ← hj]
  rfl
theorem Join_eq {N : Nat} {xs : List (List Int)} {sx sy : List (Int × Int)} (hx : xs.length ≤ 300) (h2 : sx.length ≤ 6000) (h3 : sy.length ≤ 6000) (hs : ∀ x ∈ xs, x.length ≤ 24 ∧ ∀ z ∈ x, -99 ≤ z ∧ z ≤ 99) (hl : lexSorted xs) (hsx : okSt xs.length sx) (hsy : okSt xs.length sy) (hsub : ∀ e ∈ sy, e ∈ sx) (hN : 1048577 ≤ N) :
  Zq21 N (xs, sx) (xs, sy) = some (((xs, sx), true, ()), ()) := by
 have hrow : ∀ x ∈ xs, x.length ≤ 1048576 := fun x hx => by have := (hs x hx).1; omega
 unfold Zq21
 simp only []
 rw [isSpace_ok hx h2 hs hl hsx hN, isSpace_ok hx h3 hs hl hsy hN, bind_some', bind_some']
 simp only [Bool.not_true, br_f]
 rw [copyLists_eq (by omega) hrow hN, bind_some', bind_some']
 simp only []
 rw [room_ok (by omega), chk_t, tApp_d]
 have hrow2 : ∀ x ∈ xs ++ xs, x.length ≤ 1048576 := fun x hx => by
  rcases List.mem_append.1 hx with h | h
  ·exact hrow x h
  ·exact hrow x h
 have hl2 : (xs ++ xs).length ≤ 600 := by rw [List.length_append]; omega
 obtain ⟨ys, y1, y2, y3⟩ := SortFunc_dbl (N := N) (xs := xs ++ xs) (by omega) hrow2 hN
 have hyl : ys.length ≤ 600 := by rw [y2.length_eq]; exact hl2
 rw [y1, bind_some']
 simp only []
 rw [cfun_eq (fun a ha b hb => by rw [Equal_eq (hrow2 a (y2.mem_iff.1 ha)) hN, bind_some']) (by omega) hN, bind_some']
 have hdd : ddN [] ys ys.length = xs := by
  obtain ⟨d1, d2, _⟩ := ddN_sorted (d := []) (R := fun a b : List Int => lexC a b < 0) (fun h1 h2 => lexC_trans h1 h2) (fun {a b} h1 h2 => lexC_flip h1 (Ne.symm h2)) y3 ys.length (Nat.le_refl _)
  refine lex_ext d1 hl fun s => ?_
  rw [d2 s, List.take_length, y2.mem_iff, List.mem_append, or_self]
 rw [hdd]
 simp only []
 obtain ⟨K, hK⟩ : ∃ K, N = K + 3 := ⟨N - 3, by omega⟩
 have e0 : rd QLLILQII [(xs, sx), (xs, sy)] 0 = (xs, sx) := rfl
 have e1 : rd QLLILQII [(xs, sx), (xs, sy)] 1 = (xs, sy) := rfl
 have l1 := fun R k0 x2 x3 o4 o5 => join_in (R := R) (k0 := k0) (x2 := x2) (x3 := x3) (o4 := o4) (o5 := o5) hl hx (fun x hx => (hs x hx).1) hN hsx h2 sx.length 0 N [] (by omega) (by omega) (by simp)
 have l2 := fun R k0 x2 x3 o4 o5 => join_in (R := R) (k0 := k0) (x2 := x2) (x3 := x3) (o4 := o4) (o5 := o5) hl hx (fun x hx => (hs x hx).1) hN hsy h3 sy.length 0 N sx (by omega) (by omega) (by omega)
 simp only [List.drop_zero, List.nil_append, Int.natCast_zero] at l1 l2
 have w1 : IntKind.i64.wrap (0 + 1) = 1 := rfl
 have w2 : IntKind.i64.wrap (1 + 1) = 2 := rfl
 have t2 : tLen [(xs, sx), (xs, sy)] = 2 := rfl
 have i0 : inb [(xs, sx), (xs, sy)] 0 = true := rfl
 have i1 : inb [(xs, sx), (xs, sy)] 1 = true := rfl
 obtain ⟨zs, z1, z2, z3⟩ := SortFunc_prs (N := N) (xs := sx ++ sy) (by rw [List.length_append]; omega) hN
 have hzl : zs.length ≤ 12000 := by rw [z2.length_eq, List.length_append]; omega
 have hdz : ddN (0, 0) zs zs.length = sx := by
  obtain ⟨d1, d2, _⟩ := ddN_sorted (d := ((0, 0) : Int × Int)) (R := edgeLt) (fun h1 h2 => edge_trans h1 h2) (fun {a b} h1 h2 => edge_tri h1 h2) z3 zs.length (Nat.le_refl _)
  refine edge_ext d1 (okSt_edge hsx) fun s => ?_
  rw [d2 s, List.take_length, z2.mem_iff, List.mem_append]
  exact ⟨fun h => h.elim _root_.id (hsub s), .inl⟩
 rw [t2]
 have go : ∀ (k : List (List Int) → List (Int × Int) → Option (((List (List Int) × List (Int × Int)) × Bool × Unit) × Unit)), Zq21_l0 N k (K + 3) 2 0 [(xs, sx), (xs, sy)] xs [] = k xs (sx ++ sy) := fun k => by
  simp only [Zq21_l0]
  rw [ilt_t (by decide), br_t, i0, chk_t, e0]
  simp only []
  rw [tLen_n, l1, w1, ilt_t (by decide), br_t, i1, chk_t, e1]
  simp only []
  rw [tLen_n, l2, w2, ilt_f (by decide), br_f]
 rw [show (N : Nat) = N from rfl]
 have := go (fun o o1 => ((Zq75 N o1 ()).bind fun r6 =>
          ((Zq64 N r6.2.1).bind fun r7 =>
           (br (ilt 300 (tLen o))
            (some ((([], []), false, ()), ()))
            ((br (ilt 6000 (tLen r7.1.1))
             (some ((([], []), false, ()), ()))
             (some (((o, r7.1.1), true, ()), ()))))))))
 rw [← hK] at this
 refine this.trans ?_
 rw [z1, bind_some']
 simp only []
 rw [cpt_eq (by omega) hN, hdz, bind_some']
 simp only []
 rw [tLen_n, ilt_f (by omega), br_f, tLen_n, ilt_f (by omega), br_f]
theorem nodup_leP : ∀ {a b : List (Int × Int)}, a.Nodup → (∀ x ∈ a, x ∈ b) → a.length ≤ b.length := by
 intro a
 induction a with
 | nil => intro b _ _; exact Nat.zero_le _
 | cons x a ih =>
  intro b hn hs
  obtain ⟨h1, h2⟩ := List.nodup_cons.1 hn
  have hx := hs x (List.mem_cons_self ..)
  have := ih (b := b.erase x) h2 fun y hy => (List.mem_erase_of_ne (fun (e : y = x) => h1 (e ▸ hy))).2 (hs y (List.mem_cons_of_mem _ hy))
  rw [List.length_erase_of_mem hx] at this
  have := List.length_pos_of_mem hx
  rw [List.length_cons]
  omega
theorem exP_sub {es : List (Int × Int)} {near : Bool} {a b : List Int} (h : exP es near a b = true) : exP es false a b = true := by
 rw [exP_false]
 unfold exP at h
 rw [Bool.and_eq_true] at h
 exact of_decide_eq_true h.1
theorem ex_sub {es : List (Int × Int)} {near : Bool} {ys : List (List Int)} : ∀ e ∈ stepsL (exP es near) ys, e ∈ stepsL (exP es false) ys := fun e he => by
 obtain ⟨i, j, h1, h2, h3, h4⟩ := mem_stepsL.1 he
 exact mem_stepsL.2 ⟨i, j, h1, h2, h3, exP_sub h4⟩
theorem prs_len {α : Type} {f : Nat → Nat → α} : ∀ m, m ≤ 8 → ((List.range m).flatMap fun y => (List.range y).map fun x => f x y).length ≤ 28 := by
 intro m hm
 match m, hm with
 | 0, _ => simp [List.range_succ]
 | 1, _ => simp [List.range_succ]
 | 2, _ => simp [List.range_succ]
 | 3, _ => simp [List.range_succ]
 | 4, _ => simp [List.range_succ]
 | 5, _ => simp [List.range_succ]
 | 6, _ => simp [List.range_succ]
 | 7, _ => simp [List.range_succ]
 | 8, _ => simp [List.range_succ]
theorem ex_steps {m k : Nat} {es : List (Int × Int)} {kind : Int} {near : Bool} {ys : List (List Int)} (hm : m ≤ 8) (hys : ExSt m es kind k ys) : ys.length ≤ 256 ∧ (stepsL (exP es near) ys).length ≤ 6000 := by
 have hin : ∀ s ∈ ys, ∃ a : Nat, a < 2 ^ m ∧ s = setOf m a := fun s hs => ((hys.2 s).1 hs).1
 have h256 := pow256 hm
 have h1 := lex_small hys.1 hin
 refine ⟨by omega, ?_⟩
 have h2 : (stepsL (exP es near) ys).length ≤ (stepsL (exP es false) ys).length := nodup_leP (edge_nodup (okSt_edge stepsL_ok)) ex_sub
 have hsym := exP_sym hys
 have := steps_half (p := exP es false) (xs := ys) (B := 28) (fun a ha b hb => by
  cases h : exP es false a b with
  | true => exact (hsym a ha b hb h).symm
  | false =>
   cases h' : exP es false b a with
   | true => rw [hsym b hb a ha h'] at h; cases h
   | false => rfl) fun i hi => by
  have hmem : rdL ys (i : Int) ∈ ys := by rw [rdL_n hi]; exact List.getElem_mem hi
  obtain ⟨⟨A, hA, e⟩, _, la⟩ := (hys.2 _).1 hmem
  refine Nat.le_trans (numP_le (p := fun b => exP es false (rdL ys (i : Int)) b) (lex_nodup hys.1) (L := (List.range m).flatMap fun y => (List.range y).map fun x => setOf m ((A ^^^ 2 ^ y) ^^^ 2 ^ x)) fun b hb hp => ?_) (prs_len m hm)
  obtain ⟨⟨B, hB, rfl⟩, _, lb⟩ := (hys.2 _).1 hb
  rw [exP_false, e] at hp
  rw [e] at la
  obtain ⟨x, y, hx, hy, hxy, rfl⟩ := ex_xy hA hB (by show (setOf m A).length = (setOf m B).length; omega) hp
  rcases Nat.lt_or_gt_of_ne hxy with h | h
  ·exact List.mem_flatMap.2 ⟨y, List.mem_range.2 hy, List.mem_map.2 ⟨x, List.mem_range.2 h, rfl⟩⟩
  ·refine List.mem_flatMap.2 ⟨x, List.mem_range.2 hx, List.mem_map.2 ⟨y, List.mem_range.2 h, ?_⟩⟩
   rw [xor_swap]
 omega
theorem ExSt_same {m k : Nat} {es : List (Int × Int)} {kind : Int} {xs ys : List (List Int)} (h1 : ExSt m es kind k xs) (h2 : ExSt m es kind k ys) : xs = ys := lex_ext h1.1 h2.1 fun s => by rw [h1.2, h2.2]
theorem Ex_all {N : Nat} {g : Int × List (Int × Int)} {kind k : Int} (hx : g.2.length ≤ 1048576) (hN : 1048577 ≤ N) : ∃ (ys : List (List Int)) (sx sy : List (Int × Int)) (one : Bool), okSp (ys, sx) ∧ okSp (ys, sy) ∧
  Zq80 N g kind k = some (((ys, sx), one, ()), ()) ∧ Zq3 N g kind k = some (((ys, sx), one, ()), ()) ∧ Zq83 N g kind k = some (((ys, sy), one, ()), ()) ∧ Zq22 N g kind k = some (((ys, sy), one, ()), ()) ∧
  (one = true → Zq21 N (ys, sx) (ys, sy) = some (((ys, sx), true, ()), ())) := by
 unfold Zq80 Zq3 Zq83 Zq22
 simp only [show ((g.1, g.2) : Int × List (Int × Int)) = g from rfl]
 rw [l4K_eq hx hN, isThr_eq hx hN, bind_some', bind_some']
 by_cases h : thrCase g kind k
 ·rw [decide_eq_true h]
  simp only [Bool.not_true, br_f]
  obtain ⟨hg, hk, hk2⟩ := h
  have hg1 := hg.1
  obtain ⟨m, hm⟩ : ∃ m : Nat, g.1 = (m : Int) := ⟨g.1.toNat, by omega⟩
  obtain ⟨c, hc⟩ : ∃ c : Nat, k = (c : Int) := ⟨k.toNat, by omega⟩
  obtain ⟨g1, es⟩ := g
  simp only [] at hm hx hg1
  subst hm hc
  have hed : ∀ e ∈ es, e.1 < e.2 := fun e he => (goodG_edges hg e he).2.1
  obtain ⟨ys, y1, y2⟩ := l4Ex_eq (near := false) (kind := kind) (k := c) (m := m) (by omega) hx hN
  obtain ⟨zs, z1, z2⟩ := l4Ex_eq (near := true) (kind := kind) (k := c) (m := m) (by omega) hx hN
  have e := ExSt_same y1 z1
  subst e
  have y3 := exactly_eq (by omega) hg hx y1 hN
  have hin : ∀ s ∈ ys, ∃ a : Nat, a < 2 ^ m ∧ s = setOf m a := fun s hs => ((y1.2 s).1 hs).1
  have hrow : ∀ x ∈ ys, x.length ≤ 1048576 := fun x hx => by obtain ⟨a, _, rfl⟩ := hin x hx; have := setOf_len m a; omega
  have hsm := lex_small y1.1 hin
  have h256 := pow256 (m := m) (by omega)
  have b1 := ex_steps (near := false) (by omega) y1
  have b2 := ex_steps (near := true) (by omega) y1
  refine ⟨ys, stepsL (exP es false) ys, stepsL (exP es true) ys, true, exSp_ok (es := es) (kind := kind) (k := c) (by omega) hin y1.1, exSp_ok (es := es) (kind := kind) (k := c) (by omega) hin y1.1, ?_, ?_, ?_, ?_, fun _ => Join_eq (by omega) b1.2 b2.2 (thr_rows (by omega) hin) y1.1 stepsL_ok stepsL_ok ex_sub hN⟩
  ·rw [y2, bind_some']
  ·rw [y3, bind_some']
   simp only []
   rw [spaceOf_g (xs := ys) (p := exP es false) (SortFunc_rows (by omega) hrow (lex_nodup y1.1) y1.1 (fun _ => Iff.rfl) hN) y1.1 (by omega) (fun a ha b hb _ => ?_) hN, bind_some']
   obtain ⟨⟨A, hA, rfl⟩, _, h1⟩ := (y1.2 a).1 ha
   obtain ⟨⟨B, hB, rfl⟩, _, h2⟩ := (y1.2 b).1 hb
   show (Zq38 N _ _).bind _ = _
   rw [isJump_eq (es := es) (by omega) hA hB (by omega) hN]
   rfl
  ·rw [z2]
   rfl
  ·rw [y3]
   simp only [Bool.not_true, br_f, bind_some']
   rw [spaceOf_g (xs := ys) (p := exP es true) (SortFunc_rows (by omega) hrow (lex_nodup y1.1) y1.1 (fun _ => Iff.rfl) hN) y1.1 (by omega) (fun a ha b hb _ => ?_) hN, bind_some']
   obtain ⟨⟨A, hA, rfl⟩, _, h1⟩ := (y1.2 a).1 ha
   obtain ⟨⟨B, hB, rfl⟩, _, h2⟩ := (y1.2 b).1 hb
   show (Zq13 N _ _ _).bind _ = _
   rw [isSlide_eq (by omega) hed hx hA hB (by omega) hN]
   rfl
 ·rw [decide_eq_false h]
  exact ⟨[], [], [], false, ⟨Nat.zero_le _, by simp, Nat.zero_le _, Nat.zero_le _⟩, ⟨Nat.zero_le _, by simp, Nat.zero_le _, Nat.zero_le _⟩, rfl, rfl, rfl, rfl, fun q => by cases q⟩
theorem ExWay_more {N : Nat} {g : Int × List (Int × Int)} {kind : Int} {a b : List Int} (hx : g.2.length ≤ 1048576) (ha : a.length ≤ 1048576) (hb : b.length ≤ 1048576) (hN : 1048577 ≤ N) :
  ∃ (w : List (List Int)) (ok : Bool), (w.length ≤ 256 ∧ ∀ x ∈ w, x.length ≤ 8) ∧ Zq81 N g kind a b = some ((w, ok, ()), ()) ∧ Zq4 N g kind a b = some ((w, ok, ()), ()) ∧
   (¬ (ofK g kind a ∧ ofK g kind b ∧ a.length = b.length) → ok = false) ∧
   (ofK g kind a → ofK g kind b → a.length = b.length → ∃ ys, ExSt g.1.toNat g.2 kind a.length ys ∧ a ∈ ys ∧ b ∈ ys ∧ (ok = true ↔ Wk (nbL ys.length (stepsL (exP g.2 false) ys)) ((ys.idxOf b : Nat) : Int) ((ys.idxOf a : Nat) : Int))) := by
 by_cases h : ofK g kind a ∧ ofK g kind b ∧ a.length = b.length
 ·obtain ⟨h1, h2, h3⟩ := h
  unfold Zq81 Zq4
  simp only [show ((g.1, g.2) : Int × List (Int × Int)) = g from rfl]
  rw [l4One_eq hx ha hN, isOfKind_eq hx ha hN, bind_some', bind_some', decide_eq_true h1]
  simp only [Bool.not_true, br_f]
  rw [l4One_eq hx hb hN, isOfKind_eq hx hb hN, bind_some', bind_some', decide_eq_true h2]
  simp only [Bool.not_true, br_f]
  rw [tLen_n, tLen_n, ine_f (by omega), br_f, br_f]
  obtain ⟨⟨hg, hk⟩, ha2, ha3⟩ := h1
  obtain ⟨_, hb2, hb3⟩ := h2
  have hg1 := hg.1
  obtain ⟨m, hm⟩ : ∃ m : Nat, g.1 = (m : Int) := ⟨g.1.toNat, by omega⟩
  obtain ⟨g1, es⟩ := g
  simp only [] at hm hx hg1 ha2 ha3 hb2 hb3
  subst hm
  simp only [Int.toNat_natCast] at ha3 hb3
  have hed : ∀ e ∈ es, e.1 < e.2 := fun e he => (goodG_edges hg e he).2.1
  obtain ⟨ys, y1, y2⟩ := l4Ex_eq (near := false) (kind := kind) (k := a.length) (m := m) (by omega) hx hN
  have y3 := exactly_eq (by omega) hg hx y1 hN
  have hin : ∀ s ∈ ys, ∃ a : Nat, a < 2 ^ m ∧ s = setOf m a := fun s hs => ((y1.2 s).1 hs).1
  have hsm := lex_small y1.1 hin
  have h256 := pow256 (m := m) (by omega)
  have hay : a ∈ ys := (y1.2 a).2 ⟨rising_set (by omega) ha2, ha3, rfl⟩
  have hby : b ∈ ys := (y1.2 b).2 ⟨rising_set (by omega) hb2, hb3, h3.symm⟩
  have hal : a.length ≤ m := by obtain ⟨A, _, e⟩ := hin a hay; have := setOf_len m A; rw [← e] at this; exact this
  have hrow : ∀ x ∈ ys, x.length ≤ 1048576 := fun x hx => by obtain ⟨A, _, rfl⟩ := hin x hx; have := setOf_len m A; omega
  have hsl := stepsL_len (exP es false) ys
  have h65 : ys.length * ys.length ≤ 256 * 256 := Nat.mul_le_mul (by omega) (by omega)
  have hsk : (stepsL (exP es false) ys).length ≤ 1048576 := by omega
  have hw1 := wayI_len (xs := ys) (st := stepsL (exP es false) ys) (i := ys.idxOf a) (j := ys.idxOf b) (by omega) stepsL_ok (idx_lt hay) (idx_lt hby)
  have hE : Zq3 N ((m : Int), es) kind (a.length : Int) = some (((ys, stepsL (exP es false) ys), true, ()), ()) := by
   unfold Zq3
   simp only []
   rw [isThr_eq hx hN, bind_some', decide_eq_true (show thrCase ((m : Int), es) kind (a.length : Int) from ⟨hg, hk, by omega, by simp only []; omega⟩)]
   simp only [Bool.not_true, br_f]
   rw [y3, bind_some']
   simp only []
   rw [spaceOf_g (xs := ys) (p := exP es false) (SortFunc_rows (by omega) hrow (lex_nodup y1.1) y1.1 (fun _ => Iff.rfl) hN) y1.1 (by omega) (fun a ha b hb _ => ?_) hN, bind_some']
   obtain ⟨⟨A, hA, rfl⟩, _, h1⟩ := (y1.2 a).1 ha
   obtain ⟨⟨B, hB, rfl⟩, _, h2⟩ := (y1.2 b).1 hb
   show (Zq38 N _ _).bind _ = _
   rw [isJump_eq (es := es) (by omega) hA hB (by omega) hN]
   rfl
  refine ⟨wayS ys (stepsL (exP es false) ys) a b, decide (wayS ys (stepsL (exP es false) ys) a b ≠ []), ⟨Nat.le_trans (wayS_len (by omega) stepsL_ok hay hby) (by omega), fun x hx => ?_⟩, ?_, ?_, fun q => absurd h3 fun h3 => q ⟨⟨⟨hg, hk⟩, ha2, ha3⟩, ⟨⟨hg, hk⟩, hb2, hb3⟩, h3⟩, fun _ _ _ => ⟨ys, by simp only [Int.toNat_natCast]; exact y1, hay, hby, ?_⟩⟩
  ·obtain ⟨A, _, rfl⟩ := hin x (wayS_in (by omega) stepsL_ok hay hby x hx)
   have := setOf_len m A
   omega
  ·rw [y2, bind_some']
   simp only []
   rw [index_in (by omega) hrow hay hN, index_in (by omega) hrow hby hN, bind_some', bind_some']
   simp only []
   rw [l2Walk_eq (by omega) hsk stepsL_ok (idx_lt hay) (idx_lt hby) hN, bind_some']
   simp only []
   rw [named_eq hrow (wayI_in (by omega) stepsL_ok (idx_lt hay) (idx_lt hby)) (by omega) hN, bind_some', tLen_n]
   congr 3
   unfold wayS
   cases wayI ys (stepsL (exP es false) ys) (ys.idxOf a) (ys.idxOf b) with
   | nil => rfl
   | cons z l => rw [ilt_t (by rw [List.length_cons]; omega)]; simp
  ·rw [hE, bind_some']
   simp only []
   rw [walk_eq y1.1 hrow (by omega) hsk stepsL_ok hay hby hN, bind_some']
  ·rw [← way_some (by omega) stepsL_ok hay hby]
   exact decide_eq_true_iff
 ·have hf : Zq81 N g kind a b = some (([], false, ()), ()) ∧ Zq4 N g kind a b = some (([], false, ()), ()) := by
   unfold Zq81 Zq4
   simp only [show ((g.1, g.2) : Int × List (Int × Int)) = g from rfl]
   rw [l4One_eq hx ha hN, isOfKind_eq hx ha hN, bind_some', bind_some']
   by_cases h1 : ofK g kind a
   ·rw [decide_eq_true h1]
    simp only [Bool.not_true, br_f]
    rw [l4One_eq hx hb hN, isOfKind_eq hx hb hN, bind_some', bind_some']
    by_cases h2 : ofK g kind b
    ·rw [decide_eq_true h2]
     simp only [Bool.not_true, br_f]
     rw [tLen_n, tLen_n, ine_t (fun e => h ⟨h1, h2, by omega⟩), br_t, br_t]
     exact ⟨rfl, rfl⟩
    ·rw [decide_eq_false h2]
     exact ⟨rfl, rfl⟩
   ·rw [decide_eq_false h1]
    exact ⟨rfl, rfl⟩
  exact ⟨[], false, ⟨by simp, by simp⟩, hf.1, hf.2, fun _ => rfl, fun h1 h2 h3 => absurd ⟨h1, h2, h3⟩ h⟩
theorem dew_l0 {R : Type} {N : Nat} {code : List Int} (hco : codeOk code) (hN : 1048577 ≤ N) {kind o : Int} {g : Int × List (Int × Int)} (hg : g.2.length ≤ 100) {a : List Int} {k0 : Int → Int → Int → List (Int × Int) → List Int → List Int → Option R} :
  ∀ (d n K k : Nat) (c : List Int × (Int × Int)) (b : List Int), n + d = 8 → d < K → CurOk code k c → k + 20 * d ≤ 90000 → b.length ≤ 9 →
   ∃ b' : List Int, Zq78_l0 N k0 K kind (n : Int) o c g.1 g.2 a b = k0 kind o g.1 g.2 a b' ∧ b'.length ≤ 9 := by
 intro d
 induction d with
 | zero =>
  intro n K k c b hd hK hc hk hb
  obtain ⟨K, rfl⟩ := succ_of hK
  simp only [Zq78_l0]
  rw [ilt_f (by omega), br_f]
  exact ⟨b, rfl, hb⟩
 | succ d ih =>
  intro n K k c b hd hK hc hk hb
  obtain ⟨K, rfl⟩ := succ_of hK
  simp only [Zq78_l0]
  rw [ilt_t (by omega), br_t]
  by_cases he : tLen a = tLen b
  ·rw [ine_f he, br_f]
   exact ⟨b, rfl, hb⟩
  ·rw [ine_t he, br_t]
   obtain ⟨p, c2, e1, e2⟩ := one_ok (N := N) hco hc (by omega) 12
   rw [e1, bind_some']
   simp only []
   cases p with
   | true =>
    rw [Bool.not_true, br_f]
    exact ⟨b, rfl, hb⟩
   | false =>
    rw [Bool.not_false, br_t]
    obtain ⟨b2, c3, f1, f2, f3⟩ := ofKind_ok (N := N) (g := (g.1, g.2)) (kind := kind) hco hN e2 (by omega) (by simp only []; omega)
    rw [f1, bind_some']
    simp only []
    rw [wrap_succ (by omega)]
    exact ih (n + 1) K (k + 2 + 12) c3 b2 (by omega) (by omega) f2 (by omega) f3
theorem DrawExW_ok {N : Nat} {code : List Int} (hco : codeOk code) (hN : 1048577 ≤ N) : ∃ (g : Int × List (Int × Int)) (kind : Int) (a b : List Int), Zq78 N code = some (((g.1, g.2), kind, a, b, ()), ()) ∧ g.2.length ≤ 100 ∧ a.length ≤ 9 ∧ b.length ≤ 9 := by
 unfold Zq78
 obtain ⟨g, c1, a1, a2, a3⟩ := someGraph_ok (N := N) (most := 6) hco hN cur0 (by omega) (by omega)
 rw [a1, bind_some']
 simp only []
 obtain ⟨kind, c2, d1, d2⟩ := kind_ok (N := N) hco a2 (by omega)
 rw [d1, bind_some']
 simp only []
 obtain ⟨a, c4, e1, e2, e3⟩ := ofKind_ok (N := N) (g := (g.1, g.2)) (kind := kind) hco hN d2 (by omega) (by simp only []; omega)
 rw [e1, bind_some']
 simp only []
 obtain ⟨b, c5, f1, f2, f3⟩ := ofKind_ok (N := N) (g := (g.1, g.2)) (kind := kind) hco hN e2 (by omega) (by simp only []; omega)
 rw [f1, bind_some']
 simp only []
 obtain ⟨b', h1, h2⟩ := dew_l0 (R := ((Int × List (Int × Int)) × Int × List Int × List Int × Unit) × Unit) (N := N) (kind := kind) (o := 0) (a := a) (k0 := fun kind o o1 o2 o3 o4 => some (((o1, o2), kind, o3, o4, ()), ())) hco hN a3 8 0 N _ c5 b (by omega) (by omega) f2 (by omega) f3
 exact ⟨g, kind, a, b', h1, a3, e3, h2⟩
theorem level_tail {N : Nat} {code : List Int} (hco : codeOk code) (hN : 1048577 ≤ N) {g : Int × List (Int × Int)} {k : Nat} {c : List Int × (Int × Int)} (hc : CurOk code k c) (hk : k ≤ 1000) :
  ∃ (kind n : Int) (c' : List Int × (Int × Int)), ((Zq97 N g.1 8).bind fun r3 =>
      ((Zq98 N r3.1.1 0).bind fun r4 =>
       ((Zq93 N c (IntKind.i64.wrap (r4.1.1 + 1))).bind fun r5 =>
        ((Zq92 N r5.2.1 24).bind fun r6 =>
         (br r6.1.1
          (((Zq85 N r6.2.1 [(-1), (IntKind.i64.wrap (g.1 + 1)), 9]).bind fun r7 =>
           ((Zq87 N (r7.2.1.1, (r7.2.1.2.1, r7.2.1.2.2))).bind fun r8 =>
            some (((g.1, g.2), r8.1.1, r7.1.1, ()), (r8.2.1, ())))))
          (((Zq87 N (r6.2.1.1, (r6.2.1.2.1, r6.2.1.2.2))).bind fun r9 =>
           some (((g.1, g.2), r9.1.1, r5.1.1, ()), (r9.2.1, ())))))))))
   = (some (((g.1, g.2), kind, n, ()), (c', ())) : Option (((Int × List (Int × Int)) × Int × Int × Unit) × ((List Int × (Int × Int)) × Unit))) := by
 rw [l1Least_eq, bind_some']
 simp only []
 rw [l1Most_eq, bind_some']
 simp only []
 generalize IntKind.i64.wrap ((if 0 < (if g.1 < 8 then g.1 else 8) then (if g.1 < 8 then g.1 else 8) else 0) + 1) = u
 obtain ⟨n, c1, a1, a2, _⟩ := pick_ok (N := N) hco hc (by omega) u
 rw [a1, bind_some']
 simp only []
 obtain ⟨p, c2, b1, b2⟩ := one_ok (N := N) hco a2 (by omega) 24
 rw [b1, bind_some']
 simp only []
 cases p with
 | true =>
  rw [br_t]
  obtain ⟨z, c3, d1, d2, _⟩ := among_ok (N := N) hco b2 (by omega) (l := [(-1), (IntKind.i64.wrap (g.1 + 1)), 9]) (by simp)
  rw [d1, bind_some']
  simp only [show ((c3.1, (c3.2.1, c3.2.2)) : List Int × (Int × Int)) = c3 from rfl]
  obtain ⟨kind, c4, e1, e2⟩ := kind_ok (N := N) hco d2 (by omega)
  rw [e1, bind_some']
  exact ⟨kind, z, c4, rfl⟩
 | false =>
  rw [br_f]
  simp only [show ((c2.1, (c2.2.1, c2.2.2)) : List Int × (Int × Int)) = c2 from rfl]
  obtain ⟨kind, c4, e1, e2⟩ := kind_ok (N := N) hco b2 (by omega)
  rw [e1, bind_some']
  exact ⟨kind, n, c4, rfl⟩
theorem DrawThS_ok {N : Nat} {code : List Int} (hco : codeOk code) (hN : 1048577 ≤ N) : ∃ (g : Int × List (Int × Int)) (kind n : Int), Zq79 N code = some (((g.1, g.2), kind, n, ()), ()) ∧ g.2.length ≤ 100 := by
 unfold Zq79 Zq88
 obtain ⟨g, c1, a1, a2, a3⟩ := someGraph_ok (N := N) (most := 5) hco hN cur0 (by omega) (by omega)
 rw [a1, bind_some']
 simp only []
 obtain ⟨p, c2, b1, b2⟩ := one_ok (N := N) hco a2 (by omega) 6
 rw [b1, bind_some']
 simp only []
 cases p with
 | true =>
  obtain ⟨h, c3, d1, d2, d3⟩ := bigG_ok (N := N) hco hN b2 (by omega)
  rw [br_t, d1, bind_some']
  obtain ⟨kind, n, c', e⟩ := level_tail (N := N) (g := h) hco hN d2 (by omega)
  refine ⟨h, kind, n, ?_, d3⟩
  simp only []
  rw [e, bind_some']
 | false =>
  rw [br_f]
  obtain ⟨kind, n, c', e⟩ := level_tail (N := N) (g := g) hco hN b2 (by omega)
  refine ⟨g, kind, n, ?_, a3⟩
  rw [e, bind_some']
theorem DrawExS_ok {N : Nat} {code : List Int} (hco : codeOk code) (hN : 1048577 ≤ N) : ∃ (g : Int × List (Int × Int)) (kind n : Int), Zq77 N code = some (((g.1, g.2), kind, n, ()), ()) ∧ g.2.length ≤ 100 := by
 unfold Zq77
 obtain ⟨g, kind, n, e, h⟩ := DrawThS_ok (N := N) hco hN
 rw [e, bind_some']
 exact ⟨g, kind, n, rfl, h⟩
theorem Thr_any {N : Nat} {g : Int × List (Int × Int)} {kind k : Int} (hx : g.2.length ≤ 1048576) (hN : 1048577 ≤ N) : ∃ (zs : List (List Int)) (sz : List (Int × Int)) (one : Bool), okSp (zs, sz) ∧ Zq84 N g kind k = some (((zs, sz), one, ()), ()) ∧ Zq29 N g kind k = some (((zs, sz), one, ()), ()) := by
 by_cases h : thrCase g kind k
 ·obtain ⟨ys, _, y2, y3, y4⟩ := Thr_st hx hN h
  exact ⟨_, _, _, y2, y3, y4⟩
 ·refine ⟨[], [], false, ⟨Nat.zero_le _, by simp, Nat.zero_le _, Nat.zero_le _⟩, ?_, ?_⟩
  ·unfold Zq84
   simp only [show ((g.1, g.2) : Int × List (Int × Int)) = g from rfl]
   rw [l4K_eq hx hN, bind_some', decide_eq_false h]
   rfl
  ·unfold Zq29
   simp only [show ((g.1, g.2) : Int × List (Int × Int)) = g from rfl]
   rw [isThr_eq hx hN, bind_some', decide_eq_false h]
   rfl
theorem full_set {m : Nat} {a : List Int} (hm : m ≤ 8) (h : rising 0 ((m : Int) - 1) a) (hl : m ≤ a.length) : a = setOf m (2 ^ m - 1) := by
 obtain ⟨A, hA, rfl⟩ := rising_set hm h
 have h1 : 2 ^ m - 1 < 2 ^ m := by have := Nat.two_pow_pos m; omega
 have hs : subN m A (2 ^ m - 1) := fun i hi _ => by rw [Nat.testBit_two_pow_sub_one]; exact decide_eq_true hi
 rw [sub_eq hA h1 hs (Nat.le_trans (card_le m _) hl)]
theorem exch_tail {N : Nat} {g : Int × List (Int × Int)} {kind level : Int} {a b : List Int} {ok : Bool} (hx : g.2.length ≤ 1048576) (h1 : ofK g kind a) (h2 : ofK g kind b) (h3 : a.length = b.length) (hlv : level = if kind = 2 then (a.length : Int) - 1 else (a.length : Int) + 1)
  (hw : ∃ ys, ExSt g.1.toNat g.2 kind a.length ys ∧ a ∈ ys ∧ b ∈ ys ∧ (ok = true ↔ Wk (nbL ys.length (stepsL (exP g.2 false) ys)) ((ys.idxOf b : Nat) : Int) ((ys.idxOf a : Nat) : Int))) (hN : 1048577 ≤ N) :
  (br (ilt level 0)
   (((Zq53 N a b).bind fun r21 =>
    some (((ok == r21.1.1), ()), ())))
   ((br (ilt g.1 level)
    (((Zq53 N a b).bind fun r22 =>
     some (((ok == r22.1.1), ()), ())))
    (((Zq29 N (g.1, g.2) kind level).bind fun r23 =>
     ((Zq84 N (g.1, g.2) kind level).bind fun r24 =>
      (br (!r23.1.2.1)
       (some ((false, ()), ()))
       ((br (!r24.1.2.1)
        (some ((false, ()), ()))
        (((Zq55 N (r23.1.1.1, r23.1.1.2) (r24.1.1.1, r24.1.1.2)).bind fun r25 =>
         (br (!r25.1.1)
          (some ((false, ()), ()))
          (((Zq23 N (r23.1.1.1, r23.1.1.2) a).bind fun r26 =>
           ((Zq23 N (r23.1.1.1, r23.1.1.2) b).bind fun r27 =>
            ((Zq5 N (r23.1.1.1, r23.1.1.2) r26.1.1 r27.1.1).bind fun r28 =>
             (br r26.1.2.1
              ((br r27.1.2.1
               (some (((r28.1.2.1 == ok), ()), ()))
               (some ((false, ()), ()))))
              (some ((false, ()), ()))))))))))))))))))) = (some ((true, ()), ()) : Option ((Bool × Unit) × Unit)) := by
 simp only [show ((g.1, g.2) : Int × List (Int × Int)) = g from rfl]
 obtain ⟨⟨hg, hk⟩, ha2, ha3⟩ := h1
 obtain ⟨_, hb2, hb3⟩ := h2
 have hg1 := hg.1
 obtain ⟨ys, y1, hay, hby, hok⟩ := hw
 obtain ⟨m, hm⟩ : ∃ m : Nat, g.1 = (m : Int) := ⟨g.1.toNat, by omega⟩
 have hmn : g.1.toNat = m := by omega
 rw [hmn] at y1
 have hin : ∀ s ∈ ys, ∃ a : Nat, a < 2 ^ m ∧ s = setOf m a := fun s hs => ((y1.2 s).1 hs).1
 have hal : a.length ≤ m := by obtain ⟨A, _, e⟩ := hin a hay; have := setOf_len m A; rw [← e] at this; exact this
 have same : a = b → ok = true := fun e => hok.2 (by rw [e]; exact .base)
 have rI : a = b → ((Zq53 N a b).bind fun r21 => (some (((ok == r21.1.1), ()), ()) : Option ((Bool × Unit) × Unit))) = some ((true, ()), ()) := fun e => by
  rw [rInts_eq (by omega) (by omega), bind_some', same e, decide_eq_true e]
  rfl
 by_cases c1 : level < 0
 ·rw [ilt_t c1, br_t]
  refine rI ?_
  have : a.length = 0 := by split at hlv <;> omega
  rw [List.eq_nil_of_length_eq_zero this, List.eq_nil_of_length_eq_zero (h3.symm.trans this)]
 ·rw [ilt_f c1, br_f]
  by_cases c2 : g.1 < level
  ·rw [ilt_t c2, br_t]
   refine rI ?_
   have : m ≤ a.length := by split at hlv <;> omega
   rw [hm] at ha2 hb2
   rw [full_set (by omega) ha2 this, full_set (by omega) hb2 (by omega)]
  ·rw [ilt_f c2, br_f]
   obtain ⟨zs, z1, z2, z3, z4⟩ := Thr_st hx hN (show thrCase g kind level from ⟨hg, hk, by omega, by omega⟩)
   rw [hmn] at z1
   have zin : ∀ s ∈ zs, ∃ a : Nat, a < 2 ^ m ∧ s = setOf m a := fun s hs => ((z1.2 s).1 hs).1
   have hst := thr_steps (by omega) zin z1.1
   have hrw := thr_rows (by omega) zin
   have key : a ∈ zs ∧ b ∈ zs ∧ (Wk (nbL ys.length (stepsL (exP g.2 false) ys)) ((ys.idxOf b : Nat) : Int) ((ys.idxOf a : Nat) : Int) ↔ Wk (nbL zs.length (stepsL addP zs)) ((zs.idxOf b : Nat) : Int) ((zs.idxOf a : Nat) : Int)) := by
    by_cases q : kind = 2
    ·rw [if_pos q] at hlv
     subst q
     rw [hlv] at z1
     exact ex_thr (vw_down (es := g.2) hal (by omega)) y1 z1 hay hby
    ·rw [if_neg q] at hlv
     rw [hlv] at z1
     exact ex_thr (vw_up (es := g.2) q hal) y1 z1 hay hby
   obtain ⟨az, bz, hiff⟩ := key
   have hway := way_some (st := stepsL addP zs) (by omega) stepsL_ok az bz
   have hwi : (wayI zs (stepsL addP zs) (zs.idxOf a) (zs.idxOf b) ≠ []) ↔ ok = true := by
    rw [hok, hiff, ← hway]
    unfold wayS
    exact not_congr List.map_eq_nil_iff.symm
   rw [z4, bind_some', z3, bind_some']
   simp only [Bool.not_true, br_f]
   rw [rSpace_self z2 hN, bind_some']
   simp only [Bool.not_true, br_f]
   rw [placeOf_in (by omega) (by omega) hrw z1.1 stepsL_ok az hN, placeOf_in (by omega) (by omega) hrw z1.1 stepsL_ok bz hN, bind_some', bind_some']
   simp only []
   rw [FirstWay_of (by omega) (by omega) hrw z1.1 stepsL_ok (idx_lt az) (idx_lt bz) hN, bind_some']
   simp only [br_t]
   have e : decide (wayI zs (stepsL addP zs) (zs.idxOf a) (zs.idxOf b) ≠ []) = ok := by
    cases ok with
    | true => exact decide_eq_true (hwi.2 rfl)
    | false => exact decide_eq_false fun q => by have := hwi.1 q; cases this
   rw [e]
   simp
end Go.Proofs.YtahehkidnfmfnaaGreat
