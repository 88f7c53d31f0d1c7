/- Statements on data alone. -/
import Derived.Test.YtkffaahlpdlkoaaGreatPvPure
import Derived.Test.YtkffaahlpdlkoaaGreatWindingsGc
set_option linter.all false
set_option linter.all false
namespace Go.Proofs.YtkffaahlpdlkoaaGreat
open Go Go.PV Classical
theorem allC_proper {g : Int × List (Int × Int)} {k : Int} {x : List Int} (hk : colCase g k) (hx : x ∈ allC g k) : proper g k x := by
  have hg := hk.1.1
  have hl := allC_rows x hx
  refine ⟨by omega, fun z hz => ?_, fun e he => ?_⟩
  · have := (allC_sorted g k).2 x hx z hz
    have := hk.2
    omega
  · have hp := moreC_free (k := k.toNat) (es := g.2) g.1.toNat [] [] (fun i hi => by cases hi) (by simp) x hx
    have hee := goodG_edges hk.1 e he
    obtain ⟨a, ha⟩ : ∃ a : Nat, e.1 = (a : Int) := ⟨e.1.toNat, by omega⟩
    obtain ⟨b, hb⟩ : ∃ b : Nat, e.2 = (b : Int) := ⟨e.2.toNat, by omega⟩
    have hbl : b < x.length := by omega
    have hlt : (x.take b).length = b := by simp; omega
    have := hp b hbl a (by omega)
    rw [rdI_take (by omega) (by omega), hlt] at this
    rw [ha, hb]
    exact fun q => this ⟨q, .inl (by rw [← ha, ← hb]; exact he)⟩
theorem isState_eq {N : Nat} {s : List Int} (hl : s.length ≤ 24) (hb : ∀ z ∈ s, -99 ≤ z ∧ z ≤ 99) (hN : 1048577 ≤ N) : impl_isState N s = some ((true, ()), ()) := by
  unfold impl_isState
  rw [tLen_n, ile_t (by omega), br_t, ContainsFunc_LI_int_eq (g := fun z => !decide (-99 ≤ z ∧ z ≤ 99)) (fun z _ => ?_) (by omega) (by omega), bind_some']
  · have : (s.any fun z => !decide (-99 ≤ z ∧ z ≤ 99)) = false := by
      rw [List.any_eq_false]
      intro z hz
      rw [decide_eq_true (hb z hz)]
      simp
    rw [this]
    rfl
  · unfold impl_isState_c1
    rw [between_eq, bind_some', bind_some']
theorem okSt_pair {n : Nat} {st : List (Int × Int)} (h : okSt n st) : ∀ i : Nat, i < st.length → pairAt (n : Int) st i := by
  intro i hi
  have h2 := h.2 _ (List.getElem_mem hi)
  rw [← rdP_n hi] at h2
  refine ⟨⟨h2.1, h2.2.1, h2.2.2⟩, fun h0 => ?_⟩
  have := (List.pairwise_iff_getElem.1 h.1) (i - 1) i (by omega) hi (by omega)
  rw [rdP_n hi, rdP_n (show i - 1 < st.length by omega)]
  exact this
theorem isPairs_ok {N n : Nat} {es : List (Int × Int)} (hx : es.length ≤ 1048576) (h : okSt n es) (hN : 1048577 ≤ N) : impl_isPairs N es (n : Int) = some ((true, ()), ()) := by
  have hp := okSt_pair h
  unfold impl_isPairs
  have go : ∀ (d n' K : Nat), n' + d = es.length → d < K → impl_isPairs_l0 N (fun x => some ((x, ()), ())) (fun (_ : Unit) => some ((true, ()), ())) K es (n : Int) es (es.length : Int) (n' : Int) = some ((true, ()), ()) := by
    intro d
    induction d with
    | zero =>
      intro n' K hd hK
      obtain ⟨K, rfl⟩ := succ_of hK
      simp only [impl_isPairs_l0, ilt_nf (show ¬ n' < es.length by omega), br_f]
    | succ d ih =>
      intro n' K hd hK
      obtain ⟨K, rfl⟩ := succ_of hK
      have hn : n' < es.length := by omega
      simp only [impl_isPairs_l0, ilt_n hn, inb_n hn, br_t, chk_t]
      obtain ⟨⟨p1, p2, p3⟩, p4⟩ := hp n' hn
      rw [ilt_f (by omega), br_f, ile_f (by omega), br_f, ile_f (by omega), br_f, wrap_succ (by omega)]
      by_cases h0 : 0 < n'
      · rw [ilt_0 h0, br_t, wrap_pred (by omega) h0, inb_n (by omega), chk_t]
        obtain ⟨r, r1, r2, _⟩ := comparePairs_eq hN (rdP es ((n' - 1 : Nat) : Int)) ((rdP es n').1, (rdP es n').2)
        have := r2.2 (p4 h0)
        rw [r1]
        simp only [bind_some']
        rw [ile_f (by omega), br_f]
        exact ih (n' + 1) K (by omega) (by omega)
      · rw [ilt_0n h0, br_f]
        exact ih (n' + 1) K (by omega) (by omega)
  rw [tLen_n]
  exact go es.length 0 N (by omega) (by omega)
theorem isSpace_ok {N : Nat} {xs : List (List Int)} {st : List (Int × Int)} (h1 : xs.length ≤ 300) (h2 : st.length ≤ 6000) (hs : ∀ x ∈ xs, x.length ≤ 24 ∧ ∀ z ∈ x, -99 ≤ z ∧ z ≤ 99) (hl : lexSorted xs) (h : okSt xs.length st) (hN : 1048577 ≤ N) : impl_IsSpace N (xs, st) = some ((true, ()), ()) := by
  unfold impl_IsSpace
  simp only []
  rw [tLen_n, tLen_n, ilt_f (by omega), br_f, ilt_f (by omega), br_f]
  have go : ∀ (d n K : Nat), n + d = xs.length → d < K → impl_IsSpace_l0 N (fun x1 => some ((x1, ()), ())) (fun o o1 => ((impl_isPairs N o1 (tLen o)).bind fun r => some ((r.1.1, ()), ()))) K xs (xs.length : Int) (n : Int) xs st = some ((true, ()), ()) := by
    intro d
    induction d with
    | zero =>
      intro n K hd hK
      obtain ⟨K, rfl⟩ := succ_of hK
      simp only [impl_IsSpace_l0, ilt_nf (show ¬ n < xs.length by omega), br_f]
      rw [tLen_n, isPairs_ok (by omega) h hN, bind_some']
    | succ d ih =>
      intro n K hd hK
      obtain ⟨K, rfl⟩ := succ_of hK
      have hn : n < xs.length := by omega
      obtain ⟨a1, a2⟩ := hs _ (List.getElem_mem hn)
      simp only [impl_IsSpace_l0, ilt_n hn, inb_n hn, br_t, chk_t]
      rw [rdL_n hn, isState_eq a1 a2 hN, bind_some']
      simp only [Bool.not_true, br_f]
      rw [wrap_succ (by omega)]
      by_cases h0 : 0 < n
      · have hn1 : n - 1 < xs.length := by omega
        obtain ⟨b1, b2⟩ := hs _ (List.getElem_mem hn1)
        have hlt := (List.pairwise_iff_getElem.1 hl) (n - 1) n hn1 hn (by omega)
        rw [ilt_0 h0, br_t, wrap_pred (by omega) h0, inb_n hn1, chk_t, rdL_n hn1, Compare_lex (by omega) (by omega) hN, bind_some']
        simp only []
        rw [ile_f (by omega), br_f]
        exact ih (n + 1) K (by omega) (by omega)
      · rw [ilt_0n h0, br_f]
        exact ih (n + 1) K (by omega) (by omega)
  exact go xs.length 0 N (by omega) (by omega)
def sumG (f : Nat → Int) : Nat → Nat → Int
  | _, 0 => 0
  | n, d + 1 => f n + sumG f (n + 1) d
theorem sumG_last (f : Nat → Int) : ∀ (d n : Nat), sumG f n (d + 1) = sumG f n d + f (n + d) := by
  intro d
  induction d with
  | zero => intro n; simp [sumG]
  | succ d ih =>
    intro n
    show f n + sumG f (n + 1) (d + 1) = f n + sumG f (n + 1) d + f (n + (d + 1))
    rw [ih, show n + 1 + d = n + (d + 1) by omega]
    omega
theorem sumG_congr {f g : Nat → Int} : ∀ (d n : Nat), (∀ i, n ≤ i → i < n + d → f i = g i) → sumG f n d = sumG g n d := by
  intro d
  induction d with
  | zero => intro n _; rfl
  | succ d ih =>
    intro n h
    show f n + _ = g n + _
    rw [h n (Nat.le_refl _) (by omega), ih (n + 1) fun i h1 h2 => h i (by omega) (by omega)]
theorem sumG_neg (f : Nat → Int) : ∀ (d n : Nat), sumG (fun i => - f i) n d = - sumG f n d := by
  intro d
  induction d with
  | zero => intro n; rfl
  | succ d ih =>
    intro n
    show - f n + sumG (fun i => - f i) (n + 1) d = - (f n + _)
    rw [ih]
    omega
theorem sumG_sub (f g : Nat → Int) : ∀ (d n : Nat), sumG (fun i => f i - g i) n d = sumG f n d - sumG g n d := by
  intro d
  induction d with
  | zero => intro n; rfl
  | succ d ih =>
    intro n
    show f n - g n + sumG (fun i => f i - g i) (n + 1) d = (f n + _) - (g n + _)
    rw [ih]
    omega
theorem sumG_shift (f : Nat → Int) : ∀ (d n : Nat), sumG f (n + 1) d = sumG (fun i => f (i + 1)) n d := by
  intro d
  induction d with
  | zero => intro n; rfl
  | succ d ih =>
    intro n
    show f (n + 1) + _ = f (n + 1) + _
    rw [ih]
theorem sumG_rev (f : Nat → Int) : ∀ (m : Nat), sumG (fun i => f (m - 1 - i)) 0 m = sumG f 0 m := by
  intro m
  induction m with
  | zero => rfl
  | succ m ih =>
    rw [sumG_last f m 0]
    show f (m + 1 - 1 - 0) + sumG (fun i => f (m + 1 - 1 - i)) (0 + 1) m = _
    rw [sumG_shift, ← ih, sumG_congr (f := fun i => f (m + 1 - 1 - (i + 1))) (g := fun i => f (m - 1 - i)) m 0 (fun i _ _ => by congr 1; omega)]
    rw [show m + 1 - 1 - 0 = 0 + m by omega]
    omega
theorem sumG_tele (h : Nat → Int) : ∀ (d n : Nat), sumG (fun i => h (i + 1) - h i) n d = h (n + d) - h n := by
  intro d
  induction d with
  | zero => intro n; simp [sumG]
  | succ d ih =>
    intro n
    show h (n + 1) - h n + sumG (fun i => h (i + 1) - h i) (n + 1) d = _
    rw [ih, show n + 1 + d = n + (d + 1) by omega]
    omega
def st3 (x y : Int) : Int := if y = (x + 1).tmod 3 then 1 else -1
theorem st3_anti {x y : Int} (hx : 0 ≤ x ∧ x ≤ 2) (hy : 0 ≤ y ∧ y ≤ 2) (h : x ≠ y) : st3 y x = - st3 x y := by
  have h1 : x = 0 ∨ x = 1 ∨ x = 2 := by omega
  have h2 : y = 0 ∨ y = 1 ∨ y = 2 := by omega
  rcases h1 with rfl | rfl | rfl <;> rcases h2 with rfl | rfl | rfl <;> first | exact absurd rfl h | rfl
def wS (cs t : List Int) (i : Nat) : Int := st3 (rdI cs (rdI t (i : Int))) (rdI cs (rdI t (nxt t i)))
theorem wind_iter {cs t : List Int} : ∀ (d n : Nat) (s : Int), (∀ i, n ≤ i → i < n + d → 0 ≤ rdI cs (rdI t (i : Int)) ∧ rdI cs (rdI t (i : Int)) ≤ 2) → -1000 + (d : Int) ≤ s → s ≤ 1000 - (d : Int) → iter (windStep cs t) d n s = s + sumG (wS cs t) n d := by
  intro d
  induction d with
  | zero => intro n s _ _ _; simp [iter, sumG]
  | succ d ih =>
    intro n s hc h1 h2
    have hn := hc n (Nat.le_refl _) (by omega)
    have e : windStep cs t n s = s + wS cs t n := by
      unfold windStep wS st3
      rw [wrap_ok (show -9223372036854775808 ≤ rdI cs (rdI t (n : Int)) + 1 by omega) (by omega), wrap_ok (by omega) (by omega), wrap_ok (by omega) (by omega)]
      by_cases q : rdI cs (rdI t (nxt t n)) = (rdI cs (rdI t (n : Int)) + 1).tmod 3
      · rw [if_pos (ieq_t q), if_pos q]
      · rw [if_neg (by rw [ieq_f q]; simp), if_neg q]
        omega
    have hw : wS cs t n = 1 ∨ wS cs t n = -1 := by
      unfold wS st3
      split
      · exact .inl rfl
      · exact .inr rfl
    show iter (windStep cs t) d (n + 1) (windStep cs t n s) = s + (wS cs t n + sumG (wS cs t) (n + 1) d)
    rw [e, ih (n + 1) _ (fun i h3 h4 => hc i (by omega) (by omega)) (by omega) (by omega)]
    omega
theorem trip_cols {g : Int × List (Int × Int)} {cs t : List Int} (hg : goodG g) (hp : proper g 3 cs) (ht : tripOk g.2 t) : ∀ i : Nat, i < t.length → (0 ≤ rdI t (i : Int) ∧ rdI t (i : Int) < g.1) ∧ (0 ≤ rdI cs (rdI t (i : Int)) ∧ rdI cs (rdI t (i : Int)) ≤ 2) := by
  intro i hi
  have h1 := (near_in hg (ht.1 i hi)).1
  have hl := hp.1
  obtain ⟨n, e⟩ : ∃ n : Nat, rdI t (i : Int) = (n : Int) := ⟨(rdI t (i : Int)).toNat, by omega⟩
  refine ⟨h1, ?_⟩
  rw [e, rdI_n (by omega)]
  have := hp.2.1 _ (List.getElem_mem (show n < cs.length by omega))
  omega
theorem wind_val {g : Int × List (Int × Int)} {cs t : List Int} (hg : goodG g) (hp : proper g 3 cs) (ht : tripOk g.2 t) : iter (windStep cs t) t.length 0 0 = sumG (wS cs t) 0 t.length ∧ -20 ≤ sumG (wS cs t) 0 t.length ∧ sumG (wS cs t) 0 t.length ≤ 20 := by
  have hl := ht.2
  have hb : ∀ (d n : Nat), -(d : Int) ≤ sumG (wS cs t) n d ∧ sumG (wS cs t) n d ≤ d := by
    intro d
    induction d with
    | zero => intro n; simp [sumG]
    | succ d ih =>
      intro n
      have := ih (n + 1)
      have hw : wS cs t n = 1 ∨ wS cs t n = -1 := by
        unfold wS st3
        split
        · exact .inl rfl
        · exact .inr rfl
      show -((d + 1 : Nat) : Int) ≤ wS cs t n + sumG (wS cs t) (n + 1) d ∧ wS cs t n + sumG (wS cs t) (n + 1) d ≤ ((d + 1 : Nat) : Int)
      omega
  have h1 := hb t.length 0
  refine ⟨?_, by omega, by omega⟩
  rw [wind_iter t.length 0 0 (fun i _ h2 => (trip_cols hg hp ht i (by omega)).2) (by omega) (by omega)]
  omega
theorem nxt_lt {t : List Int} {i : Nat} (h : i + 1 < t.length) : nxt t i = ((i + 1 : Nat) : Int) := by
  unfold nxt
  exact Int.tmod_eq_of_lt (by omega) (by omega)
theorem nxt_last {t : List Int} {i : Nat} (h : i + 1 = t.length) : nxt t i = 0 := by
  unfold nxt
  rw [← h, Int.tmod_self]
theorem wind_change {g : Int × List (Int × Int)} {a b t : List Int} (hg : goodG g) (ha : proper g 3 a) (hb : proper g 3 b) (ht : tripOk g.2 t) {x : Int} (hd : ∀ y : Int, 0 ≤ y → y < g.1 → y ≠ x → rdI a y = rdI b y) (hxr : 0 ≤ x ∧ x < g.1) (hne : rdI a x ≠ rdI b x) : sumG (wS b t) 0 t.length = sumG (wS a t) 0 t.length := by
  obtain ⟨δ, hδ⟩ : ∃ δ : Int, δ = st3 (3 - rdI a x - rdI b x) (rdI b x) - st3 (3 - rdI a x - rdI b x) (rdI a x) := ⟨_, rfl⟩
  obtain ⟨h, hh⟩ : ∃ h : Int → Int, h = fun y => if y = x then δ else 0 := ⟨_, rfl⟩
  have rng : ∀ (c : List Int), proper g 3 c → ∀ y : Int, 0 ≤ y → y < g.1 → 0 ≤ rdI c y ∧ rdI c y ≤ 2 := fun c hc y h1 h2 => by
    have hl := hc.1
    obtain ⟨n, rfl⟩ : ∃ n : Nat, y = (n : Int) := ⟨y.toNat, by omega⟩
    rw [rdI_n (by omega)]
    have := hc.2.1 _ (List.getElem_mem (show n < c.length by omega))
    omega
  have apart : ∀ (c : List Int), proper g 3 c → ∀ y z : Int, nearG g.2 y z → rdI c y ≠ rdI c z := fun c hc y z hn => by
    rcases hn with q | q
    · exact hc.2.2 _ q
    · exact fun e => hc.2.2 _ q e.symm
  have hax := rng a ha x hxr.1 hxr.2
  have hbx := rng b hb x hxr.1 hxr.2
  have edge : ∀ y z : Int, nearG g.2 y z → st3 (rdI b y) (rdI b z) - st3 (rdI a y) (rdI a z) = h z - h y := by
    intro y z hn
    obtain ⟨⟨y1, y2⟩, z1, z2⟩ := near_in hg hn
    have pa := apart a ha y z hn
    have pb := apart b hb y z hn
    rw [hh]
    simp only []
    by_cases ey : y = x
    · subst ey
      have ez : z ≠ y := fun e => pa (by rw [e])
      have hz := hd z z1 z2 ez
      have hzr := rng a ha z z1 z2
      rw [if_neg ez, if_pos rfl, ← hz, hδ]
      rw [← hz] at pb
      have e3 : rdI a z = 3 - rdI a y - rdI b y := by omega
      rw [e3, st3_anti (x := 3 - rdI a y - rdI b y) (y := rdI b y) (by omega) hbx (by omega), st3_anti (x := 3 - rdI a y - rdI b y) (y := rdI a y) (by omega) hax (by omega)]
      omega
    · by_cases ez : z = x
      · subst ez
        have hy := hd y y1 y2 ey
        have hyr := rng a ha y y1 y2
        rw [if_neg ey, if_pos rfl, ← hy, hδ]
        rw [← hy] at pb
        have e3 : rdI a y = 3 - rdI a z - rdI b z := by omega
        rw [e3]
        omega
      · rw [if_neg ey, if_neg ez, hd y y1 y2 ey, hd z z1 z2 ez]
        omega
  have hl := ht.2
  obtain ⟨n, hn⟩ : ∃ n, t.length = n + 1 := ⟨t.length - 1, by omega⟩
  have key : sumG (fun i => wS b t i - wS a t i) 0 (n + 1) = 0 := by
    rw [sumG_last, sumG_congr (g := fun i => (fun j : Nat => h (rdI t (j : Int))) (i + 1) - (fun j : Nat => h (rdI t (j : Int))) i) n 0 (fun i _ h2 => ?_), sumG_tele (fun j : Nat => h (rdI t (j : Int)))]
    · have e := edge _ _ (ht.1 n (by omega))
      rw [nxt_last (by omega)] at e
      simp only [wS, Nat.zero_add]
      rw [nxt_last (by omega), e]
      simp only [Int.natCast_zero]
      omega
    · have e := edge _ _ (ht.1 i (by omega))
      rw [nxt_lt (by omega)] at e
      simp only [wS]
      rw [nxt_lt (by omega)]
      exact e
  rw [sumG_sub, ← hn] at key
  omega
theorem rev_rd {t : List Int} {i : Nat} (hi : i < t.length) : rdI t.reverse (i : Int) = rdI t ((t.length - 1 - i : Nat) : Int) := by
  rw [rdI_n (by rw [List.length_reverse]; exact hi), rdI_n (show t.length - 1 - i < t.length by omega), List.getElem_reverse]
theorem rev_nxt {t : List Int} {i : Nat} (hi : i < t.length) : rdI t.reverse (nxt t.reverse i) = rdI t ((if i + 1 = t.length then t.length - 1 else t.length - 2 - i : Nat) : Int) := by
  by_cases h : i + 1 = t.length
  · rw [nxt_last (by rw [List.length_reverse]; exact h), if_pos h]
    have := rev_rd (t := t) (i := 0) (by omega)
    rw [Int.natCast_zero] at this
    rw [this]
    congr 2
  · rw [nxt_lt (by rw [List.length_reverse]; omega), rev_rd (by omega), if_neg h]
    congr 2
    omega
theorem rev_trip {es : List (Int × Int)} {t : List Int} (h : tripOk es t) : tripOk es t.reverse := by
  refine ⟨fun i hi => ?_, by rw [List.length_reverse]; exact h.2⟩
  rw [List.length_reverse] at hi
  unfold tripAt
  rw [rev_rd hi, rev_nxt hi]
  by_cases e : i + 1 = t.length
  · rw [if_pos e]
    have := h.1 (t.length - 1) (by omega)
    unfold tripAt at this
    rw [nxt_last (by omega)] at this
    rw [show ((t.length - 1 - i : Nat) : Int) = 0 by omega]
    exact nearG_symm.1 this
  · rw [if_neg e]
    have := h.1 (t.length - 2 - i) (by omega)
    unfold tripAt at this
    rw [nxt_lt (by omega), show t.length - 2 - i + 1 = t.length - 1 - i by omega] at this
    exact nearG_symm.1 this
theorem wind_back {g : Int × List (Int × Int)} {a t : List Int} (hg : goodG g) (ha : proper g 3 a) (ht : tripOk g.2 t) : sumG (wS a t.reverse) 0 t.length = - sumG (wS a t) 0 t.length := by
  have hl := ht.2
  have hne : ∀ y z : Int, nearG g.2 y z → rdI a y ≠ rdI a z := fun y z hn => by
    rcases hn with q | q
    · exact ha.2.2 _ q
    · exact fun e => ha.2.2 _ q e.symm
  have hr := trip_cols hg ha ht
  obtain ⟨n, hn⟩ : ∃ n, t.length = n + 1 := ⟨t.length - 1, by omega⟩
  rw [hn, sumG_last, sumG_last, ← sumG_rev (wS a t) n, sumG_congr (g := fun i => - (fun i => wS a t (n - 1 - i)) i) n 0 (fun i _ h2 => ?_), sumG_neg (fun i => wS a t (n - 1 - i))]
  · have e0 : wS a t.reverse (0 + n) = - wS a t (0 + n) := by
      rw [Nat.zero_add]
      unfold wS
      rw [rev_rd (by omega), rev_nxt (by omega), if_pos (by omega), nxt_last (by omega), show t.length - 1 - n = 0 by omega, show t.length - 1 = n by omega]
      have h1 := hr n (by omega)
      have h2 := hr 0 (by omega)
      have h3 := ht.1 n (by omega)
      unfold tripAt at h3
      rw [nxt_last (by omega)] at h3
      rw [Int.natCast_zero] at h2 ⊢
      exact st3_anti h1.2 h2.2 (hne _ _ h3)
    rw [e0]
    omega
  · show wS a t.reverse i = - wS a t (n - 1 - i)
    unfold wS
    rw [rev_rd (by omega), rev_nxt (by omega), if_neg (by omega), nxt_lt (by omega), show t.length - 1 - i = n - i by omega, show t.length - 2 - i = n - 1 - i by omega, show n - 1 - i + 1 = n - i by omega]
    have h1 := hr (n - 1 - i) (by omega)
    have h2 := hr (n - i) (by omega)
    have h3 := ht.1 (n - 1 - i) (by omega)
    unfold tripAt at h3
    rw [nxt_lt (by omega), show n - 1 - i + 1 = n - i by omega] at h3
    exact st3_anti h1.2 h2.2 (hne _ _ h3)
theorem ch_wind {g : Int × List (Int × Int)} {a b t : List Int} (hg : goodG g) (ha : proper g 3 a) (hb : proper g 3 b) (ht : tripOk g.2 t) (h : isCh a b = true) : sumG (wS b t) 0 t.length = sumG (wS a t) 0 t.length := by
  obtain ⟨x, hx⟩ := List.length_eq_one_iff.1 (of_decide_eq_true h)
  obtain ⟨v, hv, hne, rfl⟩ := mem_apart.1 (show x ∈ apartL a b by rw [hx]; exact List.mem_singleton.2 rfl)
  have hl := ha.1
  refine wind_change hg ha hb ht (x := (v : Int)) (fun y h1 h2 h3 => ?_) (by omega) hne
  obtain ⟨n, rfl⟩ : ∃ n : Nat, y = (n : Int) := ⟨y.toNat, by omega⟩
  refine Classical.byContradiction fun q => ?_
  have : (n : Int) ∈ apartL a b := mem_apart.2 ⟨n, by omega, q, rfl⟩
  rw [hx, List.mem_singleton] at this
  exact h3 this
theorem wk_wind {g : Int × List (Int × Int)} {t : List Int} (hk : colCase g 3) (ht : tripOk g.2 t) {x y : Int} (hx : InN (allC g 3).length x) (h : Wk (nbL (allC g 3).length (stepsL isCh (allC g 3))) x y) : InN (allC g 3).length y ∧ sumG (wS (rdL (allC g 3) y) t) 0 t.length = sumG (wS (rdL (allC g 3) x) t) 0 t.length := by
  have hp : ∀ a ∈ allC g 3, ∀ b ∈ allC g 3, isCh a b = true → isCh b a = true := fun a ha b hb h => isCh_symm (by rw [allC_rows a ha, allC_rows b hb]) h
  induction h with
  | base => exact ⟨hx, rfl⟩
  | step _ hz ih =>
    obtain ⟨n1, n2, n3, n4⟩ := near_step hp ih.1 hz
    exact ⟨n4, (ch_wind hk.1 (allC_proper hk n1) (allC_proper hk n2) ht n3).trans ih.2⟩
theorem tdiv3_neg (s : Int) : (-s).tdiv 3 = -(s.tdiv 3) := Int.neg_tdiv s 3
theorem tdiv3_in {s : Int} (h1 : -20 ≤ s) (h2 : s ≤ 20) : -7 ≤ s.tdiv 3 ∧ s.tdiv 3 ≤ 7 := by
  by_cases h : 0 ≤ s
  · rw [Int.tdiv_eq_ediv_of_nonneg h]
    omega
  · have := tdiv3_neg (-s)
    rw [Int.neg_neg, Int.tdiv_eq_ediv_of_nonneg (show 0 ≤ -s by omega)] at this
    omega
theorem windR_val {g : Int × List (Int × Int)} {cs t : List Int} (h : (colCase g 3 ∧ proper g 3 cs) ∧ tripOk g.2 t) : windR g cs t = ((sumG (wS cs t) 0 t.length).tdiv 3, true) := by
  obtain ⟨h1, h2, h3⟩ := wind_val h.1.1.1 h.1.2 h.2
  unfold windR
  rw [if_pos h, h1]
  have := tdiv3_in h2 h3
  rw [wrap_ok (by omega) (by omega)]
theorem windR_back {g : Int × List (Int × Int)} {cs t : List Int} (h : (colCase g 3 ∧ proper g 3 cs) ∧ tripOk g.2 t) : windR g cs t.reverse = (-(windR g cs t).1, true) := by
  rw [windR_val h, windR_val ⟨h.1, rev_trip h.2⟩, List.length_reverse, wind_back h.1.1.1 h.1.2 h.2, tdiv3_neg]
theorem back_l0 {R : Type} {N : Nat} {k0 : List Int → List Int → Int → Int → List (Int × Int) → List Int → Option R} {x x1 : List Int} {x2 o : Int} {o1 : List (Int × Int)} (hx : x1.length ≤ 1048576) :
    ∀ (d K : Nat) (o2 : List Int), d ≤ x1.length → d < K → o2 = (x1.drop d).reverse → laws_FnWindings_l0 N k0 K x x1 x2 ((d : Int) - 1) o o1 o2 = k0 x x1 x2 o o1 x1.reverse := by
  intro d
  induction d with
  | zero =>
    intro K o2 _ hK h
    obtain ⟨k, rfl⟩ := succ_of hK
    simp only [laws_FnWindings_l0]
    rw [ile_f (by omega), br_f, h, List.drop_zero]
  | succ d ih =>
    intro K o2 hd hK h
    obtain ⟨k, rfl⟩ := succ_of hK
    have hn : d < x1.length := by omega
    have e : ((d + 1 : Nat) : Int) - 1 = (d : Int) := by omega
    simp only [laws_FnWindings_l0]
    rw [e, ile_t (by omega), br_t, inb_n hn, chk_t, room_ok (by rw [h]; simp; omega), chk_t, wrap_ok (by omega) (by omega), tApp_d]
    refine ih k _ (by omega) (by omega) ?_
    rw [h, rdI_n hn, drop_cons hn, List.reverse_cons]
theorem dw_loop {R : Type} {N m : Nat} (hN : 1048577 ≤ N) {code : List Int} (hco : codeOk code) (hm : m ≤ 8) {es : List (Int × Int)} (hes : es.length ≤ 1048576) {a : List Int} {o : Int} {k0 : Int → Int → List (Int × Int) → List Int → List Int → Option R} :
    ∀ (d K kk : Nat) (x : Int) (c : List Int × (Int × Int)) (t : List Int), InN m x → CurOk code kk c → kk + 2 * d ≤ 900000 → d < K → t.length + d ≤ 20 → ∃ t', t'.length ≤ 20 ∧ spec_DrawWindingOf_l0 N k0 K x (d : Int) o c (m : Int) es a t = k0 o (m : Int) es a t' := by
  intro d
  induction d with
  | zero =>
    intro K kk x c t _ _ _ hK ht
    obtain ⟨k, rfl⟩ := succ_of hK
    simp only [spec_DrawWindingOf_l0]
    rw [ilt_f (by omega), br_f]
    exact ⟨t, by omega, rfl⟩
  | succ d ih =>
    intro K kk x c t hx hc hk hK ht
    obtain ⟨k, rfl⟩ := succ_of hK
    have ew : IntKind.i64.wrap (((d + 1 : Nat) : Int) - 1) = (d : Int) := by rw [wrap_ok (by omega) (by omega)]; omega
    have hl : (tApp t [x]).length = t.length + 1 := by rw [tApp_d]; simp
    simp only [spec_DrawWindingOf_l0]
    rw [ilt_t (by omega), br_t, room_ok (by simp; omega), chk_t, l2Neighbors_eq hm hes hN, bind_some']
    simp only [ew]
    have fin : ∀ (x' : Int) (c' : List Int × (Int × Int)), InN m x' → CurOk code (kk + 2) c' → ∃ t', t'.length ≤ 20 ∧ (br (ilt 1 (tLen (tApp t [x]))) (chk (inb (tApp t [x]) 0) (br (ieq x' (rdI (tApp t [x]) 0)) (k0 o (m : Int) es a (tApp t [x])) (spec_DrawWindingOf_l0 N k0 k x' (d : Int) o c' (m : Int) es a (tApp t [x])))) (spec_DrawWindingOf_l0 N k0 k x' (d : Int) o c' (m : Int) es a (tApp t [x]))) = k0 o (m : Int) es a t' := by
      intro x' c' hx' hc'
      obtain ⟨t', t1, t2⟩ := ih k (kk + 2) x' c' (tApp t [x]) hx' hc' (by omega) (by omega) (by omega)
      by_cases h1 : 1 < (tApp t [x]).length
      · have q1 : ilt 1 (tLen (tApp t [x])) = true := ilt_t (by rw [tLen_n]; omega)
        have q2 : inb (tApp t [x]) 0 = true := inb_n (n := 0) (by omega)
        rw [q1, br_t, q2, chk_t]
        by_cases h2 : x' = rdI (tApp t [x]) 0
        · rw [ieq_t h2, br_t]
          exact ⟨_, by omega, rfl⟩
        · rw [ieq_f h2, br_f]
          exact ⟨t', t1, t2⟩
      · have q1 : ilt 1 (tLen (tApp t [x])) = false := ilt_f (by rw [tLen_n]; omega)
        rw [q1, br_f]
        exact ⟨t', t1, t2⟩
    by_cases h0 : 0 < (nbr m es x).length
    · have q : ilt 0 (tLen (nbr m es x)) = true := ilt_0 h0
      obtain ⟨y, c', p1, p2, p3, p4, p5⟩ := pick_ok (N := N) hco hc (by omega) (tLen (nbr m es x))
      have p6 := p5 (by rw [tLen_n]; omega)
      rw [tLen_n] at p6
      rw [q, br_t, p1, bind_some']
      simp only []
      rw [inb_i p3 p6, chk_t]
      refine fin _ _ ?_ p2
      obtain ⟨i, rfl⟩ : ∃ i : Nat, y = (i : Int) := ⟨y.toNat, by omega⟩
      rw [rdI_n (by omega)]
      obtain ⟨j, j1, _, j3⟩ := mem_nbr.1 (List.getElem_mem (show i < (nbr m es x).length by omega))
      rw [j3]
      exact in_nat j1
    · have q : ilt 0 (tLen (nbr m es x)) = false := ilt_0n h0
      rw [q, br_f]
      exact fin x c hx (cur_mono hc (by omega))
theorem DrawWind_ok {N : Nat} {code : List Int} (hco : codeOk code) (hN : 1048577 ≤ N) : ∃ (g : Int × List (Int × Int)) (a t : List Int), spec_DrawWindingOf N code = some (((g.1, g.2), a, t, ()), ()) ∧ g.2.length ≤ 110 ∧ a.length ≤ 10 ∧ t.length ≤ 20 := by
  unfold spec_DrawWindingOf
  obtain ⟨g, c1, a1, a2, a3⟩ := dense5_ok (N := N) hco hN cur0 (by omega)
  rw [a1, bind_some']
  simp only [show ((g.1, g.2) : Int × List (Int × Int)) = g from rfl]
  obtain ⟨a, c2, b1, b2, b3⟩ := colours5_ok (N := N) (g := g) (q := 3) hco hN a2 (by omega) (by omega)
  rw [b1, bind_some']
  simp only []
  by_cases h1 : g.1 < 1
  · rw [ilt_t h1, br_t]
    exact ⟨g, a, [0, 1], rfl, a3, b3, by simp⟩
  · rw [ilt_f h1, br_f, l2Good_eq (by omega) hN, bind_some']
    by_cases hg : goodG g
    · rw [decide_eq_true hg]
      simp only [Bool.not_true, br_f]
      obtain ⟨x, c3, d1, d2, d3, d4, d5⟩ := pick_ok (N := N) hco b2 (by omega) g.1
      rw [d1, bind_some']
      simp only []
      obtain ⟨y, c4, e1, e2, e3, e4, e5⟩ := pick_ok (N := N) hco d2 (by omega) 7
      rw [e1, bind_some']
      simp only []
      obtain ⟨m, hm⟩ : ∃ m : Nat, g.1 = (m : Int) := ⟨g.1.toNat, by omega⟩
      have hm8 : m ≤ 8 := by have := hg.1; omega
      have e5 := e5 (by omega)
      have d5 := d5 (by omega)
      obtain ⟨d, hd⟩ : ∃ d : Nat, 2 + y = (d : Int) := ⟨(2 + y).toNat, by omega⟩
      rw [hd, wrap_ok (by omega) (by omega), hm]
      obtain ⟨t', t1, t2⟩ := dw_loop (N := N) hN hco hm8 (es := g.2) (by omega) (a := a) (o := 0) (k0 := fun (o : Int) (o1 : Int) (o2 : List (Int × Int)) (o3 o4 : List Int) => some ((((o1, o2), o3, o4, ()), ()) : ((Int × List (Int × Int)) × List Int × List Int × Unit) × Unit)) d N 250 x c4 [] ⟨d3, by omega⟩ (cur_mono e2 (by omega)) (by omega) (by omega) (by simp; omega)
      rw [t2]
      exact ⟨((m : Int), g.2), a, t', rfl, a3, b3, t1⟩
    · rw [decide_eq_false hg]
      simp only [Bool.not_false, br_t]
      exact ⟨g, a, [0, 1], rfl, a3, b3, by simp⟩
theorem lab_l1 {R : Type} {N : Nat} {k0 : Bool → Option R} {k1 : Bool → List Int → List (List Int) → List (Int × Int) → Option R} {g : Int × List (Int × Int)} {t dist : List Int} {v : Int} {xs : List (List Int)} {st : List (Int × Int)} {f : List Int → Int}
    (hd : dist.length = xs.length) (hx : xs.length ≤ 1048576) (hf : ∀ x ∈ xs, impl_WindingOf N g x t = some ((f x, true, ()), ())) (hv : ∀ i : Nat, i < xs.length → 0 ≤ rdI dist (i : Int) → f (rdL xs (i : Int)) = v) :
    ∀ (d n K : Nat) (o6 : List Int), n + d = xs.length → d < K → o6 = (xs.take n).map f → laws_FnWindings_l1 N k0 k1 K t v true (n : Int) g.1 g.2 dist o6 xs st = k1 true (xs.map f) xs st := by
  intro d
  induction d with
  | zero =>
    intro n K o6 hn hK h
    obtain ⟨k, rfl⟩ := succ_of hK
    simp only [laws_FnWindings_l1]
    rw [br_t, ilt_lenf (by omega), br_f, h, List.take_of_length_le (by omega)]
  | succ d ih =>
    intro n K o6 hn hK h
    obtain ⟨k, rfl⟩ := succ_of hK
    have hl : n < xs.length := by omega
    have hm : rdL xs (n : Int) ∈ xs := by rw [rdL_n hl]; exact List.getElem_mem hl
    have hlen : o6.length = n := by rw [h]; simp; omega
    simp only [laws_FnWindings_l1, show ((g.1, g.2) : Int × List (Int × Int)) = g from rfl]
    rw [br_t, ilt_len (by omega), br_t, inb_n hl, chk_t, hf _ hm, bind_some']
    simp only [Bool.not_true, br_f]
    have nx : laws_FnWindings_l1 N k0 k1 k t v true (IntKind.i64.wrap ((n : Int) + 1)) g.1 g.2 dist (tApp o6 [f (rdL xs (n : Int))]) xs st = k1 true (xs.map f) xs st := by
      rw [wrap_succ (by omega), tApp_d]
      refine ih (n + 1) k _ (by omega) (by omega) ?_
      rw [h, List.take_add_one, List.map_append, List.getElem?_eq_getElem hl, rdL_n hl]
      rfl
    rw [inb_n (by omega), chk_t, room_ok (by simp; omega), chk_t]
    by_cases h0 : 0 ≤ rdI dist (n : Int)
    · rw [ile_t h0, br_t, ine_f (hv n hl h0), br_f]
      exact nx
    · rw [ile_f h0, br_f]
      exact nx
theorem placeOf_in {N : Nat} {xs : List (List Int)} {st : List (Int × Int)} {a : List Int} (h1 : xs.length ≤ 300) (h2 : st.length ≤ 6000) (hs : ∀ x ∈ xs, x.length ≤ 24 ∧ ∀ z ∈ x, -99 ≤ z ∧ z ≤ 99) (hl : lexSorted xs) (h : okSt xs.length st) (ha : a ∈ xs) (hN : 1048577 ≤ N) :
    impl_PlaceOf N (xs, st) a = some ((((xs.idxOf a : Nat) : Int), true, ()), ()) := by
  unfold impl_PlaceOf
  simp only []
  rw [isSpace_ok h1 h2 hs hl h hN, bind_some']
  simp only [Bool.not_true, br_f]
  rw [place_in hl (by omega) (fun x hx => by have := (hs x hx).1; omega) ha hN, bind_some']
  simp only [Bool.not_true, br_f]
theorem distFrom_eq {N : Nat} {xs : List (List Int)} {st : List (Int × Int)} {i : Nat} (h1 : xs.length ≤ 300) (h2 : st.length ≤ 6000) (hs : ∀ x ∈ xs, x.length ≤ 24 ∧ ∀ z ∈ x, -99 ≤ z ∧ z ≤ 99) (hl : lexSorted xs) (h : okSt xs.length st) (hi : i < xs.length) (hN : 1048577 ≤ N) :
    impl_DistancesFrom N (xs, st) (i : Int) = some ((bfsD (nbL xs.length st) xs.length (i : Int), true, ()), ()) := by
  unfold impl_DistancesFrom
  simp only []
  rw [isSpace_ok h1 h2 hs hl h hN, bind_some']
  simp only [Bool.not_true, br_f]
  unfold impl_Space_isPlace
  simp only []
  rw [between_eq, bind_some', tLen_n, wrap_ok (by omega) (by omega), decide_eq_true (by omega), bind_some']
  simp only [Bool.not_true, br_f]
  rw [sroads_eq (by omega) (by omega) h hN, bind_some']
  simp only []
  rw [spread_eq (nbL_ok (by omega) h) (by omega) (in_nat hi) hN, bind_some']
theorem areKept_eq {N : Nat} {xs : List (List Int)} {st : List (Int × Int)} {ls : List Int} (h1 : xs.length ≤ 300) (h2 : st.length ≤ 6000) (hs : ∀ x ∈ xs, x.length ≤ 24 ∧ ∀ z ∈ x, -99 ≤ z ∧ z ≤ 99) (hl : lexSorted xs) (h : okSt xs.length st) (hll : ls.length = xs.length) (hb : ∀ z ∈ ls, -1000000 ≤ z ∧ z ≤ 1000000) (hk : ∀ e ∈ st, rdI ls e.1 = rdI ls e.2) (hN : 1048577 ≤ N) :
    impl_AreKept N (xs, st) ls = some ((true, true, ()), ()) := by
  unfold impl_AreKept
  simp only []
  rw [isSpace_ok h1 h2 hs hl h hN, bind_some']
  simp only [Bool.not_true, br_f]
  unfold impl_Space_areValues
  simp only []
  rw [ieq_t (by rw [tLen_n, tLen_n]; omega), br_t, ContainsFunc_LI_int_eq (g := fun z => !decide (-1000000 ≤ z ∧ z ≤ 1000000)) (fun z _ => ?_) (by omega) (by omega), bind_some', bind_some']
  · have e : (ls.any fun z => !decide (-1000000 ≤ z ∧ z ≤ 1000000)) = false := by
      rw [List.any_eq_false]
      intro z hz
      rw [decide_eq_true (hb z hz)]
      simp
    rw [e]
    simp only [Bool.not_false, Bool.not_true, br_f]
    unfold impl_Space_within
    simp only []
    rw [ContainsFunc_LP_P2_eq (g := fun _ => false) (fun e he => ?_) (by omega) (by omega), bind_some', bind_some']
    · simp
    · have ho := h.2 e he
      have hr := hk e he
      obtain ⟨i, hi⟩ : ∃ i : Nat, e.1 = (i : Int) := ⟨e.1.toNat, by omega⟩
      have hbi : -1000000 ≤ rdI ls e.1 ∧ rdI ls e.1 ≤ 1000000 := by
        rw [hi, rdI_n (by omega)]
        exact hb _ (List.getElem_mem _)
      unfold impl_Space_within_c1 impl_differ
      rw [inb_i (by omega) (by omega), chk_t, inb_i (by omega) (by omega), chk_t, chk_t, chk_t, ← hr, wrap_ok (by omega) (by omega)]
      simp [ilt_f]
  · unfold impl_Space_areValues_c1
    rw [between_eq, bind_some', bind_some']
theorem Windings_pure {N : Nat} (hN : 1048577 ≤ N) {code : List Int} (hw : ∀ y ∈ code, (Lit.int .u8 y).wf = true) : laws_FnWindings N code = some ((true, ()), ()) := by
  unfold laws_FnWindings laws_vBig
  rw [bind_some']
  simp only []
  rw [tLen_n]
  by_cases hb : 65536 < code.length
  · rw [ilt_t (by omega), br_t]
  · rw [ilt_f (by omega), br_f]
    have hco := code_ok hw (by omega)
    obtain ⟨g, a, t, d1, d2, d3, d4⟩ := DrawWind_ok (N := N) hco hN
    have hx : g.2.length ≤ 1048576 := by omega
    rw [d1, bind_some']
    simp only [show ((g.1, g.2) : Int × List (Int × Int)) = g from rfl]
    rw [impl_WindingOf_eq hx (by omega) (by omega) hN, bind_some', spec_WindingOf_eq hx (by omega) (by omega) hN, bind_some']
    simp only [beq_self_eq_true, Bool.not_true, br_f]
    rw [ine_f rfl, br_f]
    by_cases h : (colCase g 3 ∧ proper g 3 a) ∧ tripOk g.2 t
    · have e := windR_val h
      have ht2 : (windR g a t).2 = true := by rw [e]
      rw [ht2]
      simp only [Bool.not_true, br_f]
      rw [tLen_n, wrap_ok (by omega) (by omega), back_l0 (by omega) t.length N [] (by omega) (by omega) (by rw [List.drop_of_length_le (Nat.le_refl _)]; rfl)]
      simp only [show ((g.1, g.2) : Int × List (Int × Int)) = g from rfl]
      have hw0 := wind_val h.1.1.1 h.1.2 h.2
      have hv3 := tdiv3_in hw0.2.1 hw0.2.2
      have hv : -7 ≤ (windR g a t).1 ∧ (windR g a t).1 ≤ 7 := by rw [e]; exact hv3
      rw [impl_WindingOf_eq hx (by omega) (by rw [List.length_reverse]; omega) hN, bind_some', windR_back h]
      simp only [Bool.not_true, br_f]
      rw [ine_f (by rw [wrap_ok (by omega) (by omega)]; omega), br_f, impl_ColSp hx hN, bind_some']
      by_cases hl : (allC g 3).length ≤ 300
      · have hk := h.1.1
        have e1 : colSpV g 3 = ((allC g 3, stepsL isCh (allC g 3)), true) := by unfold colSpV; rw [if_pos ⟨hk, hl⟩]
        have s1 := colSteps_le hk hl
        have hm8 : g.1.toNat ≤ 8 := by have := hk.1.1; omega
        have hst : ∀ x ∈ allC g 3, x.length ≤ 24 ∧ ∀ z ∈ x, -99 ≤ z ∧ z ≤ 99 := fun x hx => by
          refine ⟨by rw [allC_rows x hx]; omega, fun z hz => ?_⟩
          have := (allC_sorted g 3).2 x hx z hz
          omega
        have hok : okSt (allC g 3).length (stepsL isCh (allC g 3)) := stepsL_ok
        have ha := mem_allC hk hl h.1.2
        have hi := idx_lt ha
        rw [e1]
        simp only [Bool.not_true, br_f]
        rw [placeOf_in hl (by omega) hst (allC_sorted g 3).1 hok ha hN, bind_some']
        simp only []
        rw [distFrom_eq hl (by omega) hst (allC_sorted g 3).1 hok hi hN, bind_some']
        simp only []
        have hprop : ∀ x ∈ allC g 3, (colCase g 3 ∧ proper g 3 x) ∧ tripOk g.2 t := fun x hx => ⟨⟨hk, allC_proper hk hx⟩, h.2⟩
        obtain ⟨b1, b2, b3, b4, b5, b6⟩ := bfsD_spec (nbL_ok (by omega) hok) (in_nat hi)
        have hd0 : ((0 : Nat) : Int) = 0 := rfl
        rw [← hd0, lab_l1 (g := g) (f := fun x => (windR g x t).1) b1 (by omega) (fun x hx' => ?_) (fun i hi2 h0 => ?_) (allC g 3).length 0 N [] (by omega) (by omega) (by simp)]
        · rw [areKept_eq hl (by omega) hst (allC_sorted g 3).1 hok (by simp) (fun z hz => ?_) (fun s hs => ?_) hN, bind_some']
          · rfl
          · obtain ⟨x, x1, rfl⟩ := List.mem_map.1 hz
            have hp := hprop x x1
            have hw1 := wind_val hp.1.1.1 hp.1.2 hp.2
            have := tdiv3_in hw1.2.1 hw1.2.2
            rw [windR_val hp]
            simp only []
            omega
          · obtain ⟨i, j, rfl, hij, hj, hp⟩ := mem_stepsL.1 hs
            simp only []
            have hi3 : i < (allC g 3).length := by omega
            rw [rdI_n (by simpa using hi3), rdI_n (by simpa using hj), List.getElem_map, List.getElem_map]
            rw [rdL_n hi3, rdL_n hj] at hp
            have m1 := hprop _ (List.getElem_mem hi3)
            have m2 := hprop _ (List.getElem_mem hj)
            rw [windR_val m1, windR_val m2, ch_wind hk.1 m1.1.2 m2.1.2 h.2 hp]
        · rw [impl_WindingOf_eq hx (by rw [allC_rows x hx']; omega) (by omega) hN, windR_val (hprop x hx')]
        · have hwk := wk_of_wl (b5 _ (in_nat hi2) h0)
          have := wk_wind hk h.2 (in_nat hi) hwk
          rw [idx_rd ha] at this
          have hm : rdL (allC g 3) (i : Int) ∈ allC g 3 := by rw [rdL_n hi2]; exact List.getElem_mem hi2
          rw [windR_val (hprop _ hm), e, this.2]
      · have e1 : colSpV g 3 = (([], []), false) := by unfold colSpV; rw [if_neg fun q => hl q.2]
        rw [e1]
        rfl
    · have e1 : windR g a t = (0, false) := by unfold windR; rw [if_neg h]
      rw [e1]
      rfl
theorem Windings_pureT : ∀ x : argsT (psOf [LU8]), WfA [LU8] x → ∃ k m, (laws_FnWindings_S k).f x = some ((true, ()), m) :=
  fun x h => ⟨1048577, (), Windings_pure (Nat.le_refl _) h.1.2⟩
end Go.Proofs.YtkffaahlpdlkoaaGreat
