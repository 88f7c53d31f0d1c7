/- append. -/
import Derived.Test.YtahehkidnfmfnaaGreatPvStore
set_option linter.all false
namespace Go.PV
open Go

section
variable {P : Program} {Γ : Tab} {B : Nat → Prop} {new : Id → Prop} {s : St} {tmps : Array Value} {w : World} {φ : Hd} {β : Bl} {R : Type} {r : R}

def Reads (w : World) (size n : Nat) (v : Value) (us : List Value) : Prop :=
  ∃ A c, v = .slice A n c ∧ us.length = n * size ∧ (0 < n → ∃ g o, A = some ⟨g, o, none⟩ ∧ Cells w g o us)

theorem run_first {size n : Nat} {v : Value} {us : List Value} (h : Reads w size n v us) : (Builtin.firstCells size n v).run P w = .ok us.toArray w := by
  obtain ⟨A, c, rfl, hl, hr⟩ := h
  cases A with
  | none =>
    rcases Nat.eq_zero_or_pos n with rfl | hn
    · have : us = [] := List.eq_nil_of_length_eq_zero (by simpa using hl)
      subst this
      exact run_firstCells_none (P := P) w size 0 0 c
    · obtain ⟨g, o, hA, _⟩ := hr hn
      cases hA
  | some a =>
    rcases Nat.eq_zero_or_pos n with rfl | hn
    · have : us = [] := List.eq_nil_of_length_eq_zero (by simpa using hl)
      subst this
      exact run_firstCells_some (P := P) w size 0 a 0 c [] (by simp) (by simp)
    · obtain ⟨g, o, hA, hc⟩ := hr hn
      injection hA with hA
      subst hA
      refine run_firstCells_some (P := P) w size n _ n c us hl fun j v hj => ?_
      rw [add_flat]
      obtain ⟨hlt, rfl⟩ := List.getElem?_eq_some_iff.1 hj
      exact hc j hlt

theorem Reads.drew {size n : Nat} {v : Value} {us : List Value} (h : Reads w size n v us) : Reads w.drew size n v us := h

theorem run_app_grow {t t' ty e e' : TypeId} {i : TypeInfo} {z : Value} (ht : P.underlying t = some (.slice e)) (ht' : P.underlying t' = some (.slice e')) (hi : P.info? e = some i) (hz : i.zero = some z)
    (hby : i.bytes ≤ 128) {A : Option Addr} {n c : Nat} {olds : List Value} (ho : Reads w i.size n (.slice A n c) olds) {m : Nat} {y : Value} {news : List Value} (hn : Reads w i.size m y news) (hg : c < n + m)
    (hroom : n + m ≤ 1099511627776) :
    (Builtin.append_ #[t, t'] ty #[.slice A n c, y]).run P w = .ok (.slice (some ⟨w.heap.size, 0, none⟩) (n + m) (grownCap w (n + m) c e))
      (w.drew.alloc (.cells (olds.toArray ++ news.toArray ++ Builtin.zeroCells z.cells (grownCap w (n + m) c e - (n + m))) e)) := by
  have h1 : ¬ (n + m ≤ c) := by omega
  have h63' : ¬ (9223372036854775807 < ((n : Int) + (m : Int))) := by omega
  have hfit : Builtin.nextslicecap (n + m) c * i.bytes ≤ 281474976710656 := growslice_fits hg (Nat.le_trans (Nat.mul_le_mul hroom hby) (by omega))
  have h48' : ¬ (281474976710656 < Builtin.nextslicecap (n + m) c * i.bytes) := by omega
  have hf := run_first (P := P) hn.drew
  have hfo := run_first (P := P) ho.drew
  obtain ⟨A', c', rfl, hl, hr⟩ := hn
  simp [Builtin.append_, run_underlying ht, run_underlying ht', sizeOf, typeInfo, zeroValue, hi, hz, Builtin.lenOf, h1, h63', h48', Question.forced, hf, hfo, newRow, grownCap]
  congr 2
  apply Array.ext'
  simp [List.append_assoc]

theorem run_app_room {t t' ty e e' : TypeId} {i : TypeInfo} (ht : P.underlying t = some (.slice e)) (ht' : P.underlying t' = some (.slice e')) (hi : P.info? e = some i)
    {g o n c : Nat} {cur : Array Value} {e2 : TypeId} (hgc : w.heap[g]? = some (.cells cur e2 (0, 0))) {m : Nat} {y : Value} {news : List Value} (hn : Reads w i.size m y news) (h1 : ∀ u ∈ news, u.oneCell' = true)
    (hroom : n + m ≤ c) (hfit : o + n * i.size + news.length ≤ cur.size) :
    (Builtin.append_ #[t, t'] ty #[.slice (some ⟨g, o, none⟩) n c, y]).run P w = .ok (.slice (some ⟨g, o, none⟩) (n + m) c)
      (w.setRow g (cur.toList.take (o + n * i.size) ++ news ++ cur.toList.drop (o + n * i.size + news.length)).toArray) := by
  have hf := run_first (P := P) hn
  have hst := run_storeCells_at P g (o + n * i.size) e2 news 0 cur w hgc (by simpa using hfit) h1
  simp only [Nat.add_zero] at hst
  obtain ⟨A', c', rfl, hl, hr⟩ := hn
  simp [Builtin.append_, run_underlying ht, run_underlying ht', sizeOf, typeInfo, hi, Builtin.lenOf, hroom, hf, add_flat, hst]

theorem run_app_nil {t t' ty e e' : TypeId} {i : TypeInfo} (ht : P.underlying t = some (.slice e)) (ht' : P.underlying t' = some (.slice e')) (hi : P.info? e = some i) {y : Value} {news : List Value} (hn : Reads w i.size 0 y news) :
    (Builtin.append_ #[t, t'] ty #[.slice none 0 0, y]).run P w = .ok (.slice none 0 0) w := by
  have hf := run_first (P := P) hn
  obtain ⟨A', c', rfl, hl, hr⟩ := hn
  simp [Builtin.append_, run_underlying ht, run_underlying ht', sizeOf, typeInfo, hi, Builtin.lenOf, hf]

theorem row_cells {g o k : Nat} {Q : Nat → List Value → Prop} : ∀ n : Nat, (∀ i, i < n → ∃ us : List Value, us.length = k ∧ Cells w g (o + i * k) us ∧ Q i us) →
    ∃ us : List Value, us.length = n * k ∧ Cells w g o us ∧ ∀ i, i < n → Q i ((us.drop (i * k)).take k) := by
  intro n
  induction n with
  | zero => intro _; exact ⟨[], by simp, fun j hj => absurd hj (by simp), fun i hi => absurd hi (by omega)⟩
  | succ n ih =>
    intro h
    obtain ⟨us, h1, h2, h3⟩ := ih fun i hi => h i (by omega)
    obtain ⟨vs, h4, h5, h6⟩ := h n (by omega)
    refine ⟨us ++ vs, by simp [h1, h4, Nat.add_mul], fun j hj => ?_, fun i hi => ?_⟩
    · by_cases hlt : j < us.length
      · rw [List.getElem_append_left hlt]
        exact h2 j hlt
      · rw [List.getElem_append_right (by omega)]
        have := h5 (j - us.length) (by simp at hj; omega)
        rw [← this]
        congr 2
        omega
    · by_cases hlt : i < n
      · have : (i + 1) * k ≤ n * k := Nat.mul_le_mul_right _ hlt
        rw [Nat.add_mul, Nat.one_mul] at this
        rw [List.drop_append_of_le_length (by omega), List.take_append_of_le_length (by simp; omega)]
        exact h3 i hlt
      · have : i = n := by omega
        subst this
        rw [List.drop_append_of_le_length (by omega), List.drop_eq_nil_of_le (by omega), List.nil_append, ← h4, List.take_length]
        exact h6

theorem seg_app {olds news : List Value} {n k i : Nat} (hl : olds.length = n * k) :
    (((olds ++ news).drop (i * k)).take k) = if i < n then (olds.drop (i * k)).take k else (news.drop ((i - n) * k)).take k := by
  by_cases hlt : i < n
  · rw [if_pos hlt]
    have : (i + 1) * k ≤ n * k := Nat.mul_le_mul_right _ hlt
    rw [Nat.add_mul, Nat.one_mul] at this
    rw [List.drop_append_of_le_length (by omega), List.take_append_of_le_length (by simp; omega)]
  · rw [if_neg hlt]
    have h1 : n * k ≤ i * k := Nat.mul_le_mul_right _ (by omega)
    rw [List.drop_append, List.drop_eq_nil_of_le (by omega), List.nil_append, hl, Nat.sub_mul]

theorem OwL.reads {t : Ty} {v : Value} {xs : List t.T} {bs : List Nat} (h : OwL P t w B v xs bs) :
    ∃ A c olds, v = .slice A xs.length c ∧ xs.length ≤ c ∧ Reads w t.n xs.length v olds ∧ (∀ u ∈ olds, u.oneCell' = true) ∧ ∀ (i : Nat) (h : i < xs.length), Rd P t w B ((olds.drop (i * t.n)).take t.n) xs[i] := by
  rcases h with ⟨rfl, rfl, rfl⟩ | ⟨g, o, c, cur, e, rfl, h2, h3, h4, h5, h6⟩
  · exact ⟨none, 0, [], rfl, Nat.le_refl _, ⟨none, 0, rfl, by simp, fun h => absurd h (by simp)⟩, by simp, fun i h => absurd h (by simp)⟩
  · obtain ⟨us, h7, h8, h9⟩ := row_cells (w := w) (g := g) (o := o) (k := t.n) (Q := fun i us => ∀ h : i < xs.length, Rd P t w B us xs[i]) xs.length (fun i hi => by
      obtain ⟨us, h7, h8, h9⟩ := h6 i hi
      exact ⟨us, h7, fun j hj => by rw [cell_of_heap h2]; exact h8 j hj, fun _ => h9⟩)
    refine ⟨_, c, us, rfl, h3, ⟨_, c, rfl, h7, fun _ => ⟨g, o, rfl, h8⟩⟩, fun u hu => ?_, fun i hi => h9 i hi hi⟩
    obtain ⟨k, hk, rfl⟩ := List.getElem_of_mem hu
    have htn : 0 < t.n := by
      rcases Nat.eq_zero_or_pos t.n with h0 | h0
      · rw [h7, h0, Nat.mul_zero] at hk
        omega
      · exact h0
    have hdiv : k / t.n < xs.length := by rw [Nat.div_lt_iff_lt_mul htn, ← h7]; exact hk
    refine (h9 (k / t.n) hdiv hdiv).one _ ?_
    have hm := Nat.mod_lt k htn
    have he : k / t.n * t.n + k % t.n = k := Nat.div_add_mod' k t.n
    refine List.mem_of_getElem? (i := k % t.n) ?_
    rw [List.getElem?_take, if_pos hm, List.getElem?_drop, he]
    exact List.getElem?_eq_getElem hk

theorem OwL.of_cells {t : Ty} {g o c : Nat} {cur : Array Value} {e : TypeId} {zs : List t.T} {all : List Value} (hg : w.heap[g]? = some (.cells cur e (0, 0))) (hc : zs.length ≤ c) (hs : o + c * t.n ≤ cur.size)
    (hl : all.length = zs.length * t.n) (hat : ∀ k, k < all.length → cur[o + k]? = all[k]?) (hr : ∀ (i : Nat) (h : i < zs.length), Rd P t w B ((all.drop (i * t.n)).take t.n) zs[i]) :
    OwL P t w B (.slice (some ⟨g, o, none⟩) zs.length c) zs [g] := by
  refine .inr ⟨g, o, c, cur, e, rfl, hg, hc, hs, rfl, fun i hi => ⟨_, (hr i hi).len, fun j hj => ?_, hr i hi⟩⟩
  have hj' : j < t.n := by rw [(hr i hi).len] at hj; exact hj
  have : (i + 1) * t.n ≤ zs.length * t.n := Nat.mul_le_mul_right _ hi
  rw [Nat.add_mul, Nat.one_mul] at this
  rw [Nat.add_assoc, hat _ (by omega), ← List.getElem?_eq_getElem hj, List.getElem?_take, if_pos hj', List.getElem?_drop]

theorem heap_drew (w : World) (o : Obj) : (w.drew.alloc o).heap[w.heap.size]? = some o := heap_new w.drew o
theorem Fr.drewAlloc (w : World) (o : Obj) : Fr w (w.drew.alloc o) (fun _ => True) := (Fr.drew w).trans (Fr.alloc w.drew o)

theorem OwL.app {t : Ty} {ts ts' ty e e' : TypeId} {i : TypeInfo} {z : Value} (ht : P.underlying ts = some (.slice e)) (ht' : P.underlying ts' = some (.slice e')) (hi : P.info? e = some i) (hz : i.zero = some z)
    (hby : i.bytes ≤ 128) (hsz : i.size = t.n) (hzs : z.cells.size = t.n) {v y : Value} {xs ys : List t.T} {bs : List Nat} {news : List Value} (h : OwL P t w B v xs bs) (hB : ∀ b, B b → b ∉ bs)
    (hlow : ∀ b ∈ bs, b < w.heap.size) (hn : Reads w t.n ys.length y news) (h1 : ∀ u ∈ news, u.oneCell' = true)
    (hrd : ∀ (i : Nat) (h : i < ys.length), Rd P t w B ((news.drop (i * t.n)).take t.n) ys[i]) (hroom : xs.length + ys.length ≤ 1099511627776) :
    ∃ v' w' bs', (Builtin.append_ #[ts, ts'] ty #[v, y]).run P w = .ok v' w' ∧ OwL P t w' B v' (xs ++ ys) bs' ∧ Fr w w' (fun b => b ∉ bs) ∧ bs'.Nodup ∧
      (∀ b ∈ bs', b < w'.heap.size ∧ (w.heap.size ≤ b ∨ b ∈ bs)) ∧ ∃ A n c, v' = .slice A n c := by
  obtain ⟨A, c, olds, hv, hc, ho, ho1, hord⟩ := h.reads
  have hol : olds.length = xs.length * t.n := by obtain ⟨_, _, _, h, _⟩ := ho; exact h
  have hnl : news.length = ys.length * t.n := by obtain ⟨_, _, _, h, _⟩ := hn; exact h
  have hall : (olds ++ news).length = (xs ++ ys).length * t.n := by simp [hol, hnl, Nat.add_mul]
  have hseg : ∀ {w'}, Fr w w' B → ∀ (i : Nat) (h : i < (xs ++ ys).length), Rd P t w' B (((olds ++ news).drop (i * t.n)).take t.n) (xs ++ ys)[i] := by
    intro w' hf i hi
    rw [seg_app hol]
    by_cases hlt : i < xs.length
    · rw [if_pos hlt, List.getElem_append_left hlt]
      exact (hord i hlt).fr hf
    · rw [if_neg hlt, List.getElem_append_right (by omega)]
      exact (hrd (i - xs.length) (by simp at hi; omega)).fr hf
  by_cases hg : c < xs.length + ys.length
  · subst hv
    have hrun := run_app_grow (P := P) (ty := ty) ht ht' hi hz hby (by rw [hsz]; exact ho) (by rw [hsz]; exact hn) hg hroom
    have hge := grownCap_ge w (xs.length + ys.length) c e
    refine ⟨_, _, [w.heap.size], hrun, ?_, (Fr.drewAlloc w _).mono fun _ _ => trivial, by simp, fun b hb => ?_, _, _, _, rfl⟩
    · have := OwL.of_cells (P := P) (t := t) (B := B) (zs := xs ++ ys) (all := olds ++ news) (c := grownCap w (xs.length + ys.length) c e) (o := 0) (heap_drew w (.cells (olds.toArray ++ news.toArray ++ Builtin.zeroCells z.cells (grownCap w (xs.length + ys.length) c e - (xs.length + ys.length))) e)) (by simpa using hge)
        (by
          simp only [Array.size_append, List.size_toArray, size_zeroCells, hzs, hol, hnl, ← Nat.add_mul]
          rw [Nat.zero_add]
          apply Nat.le_of_eq
          congr 1
          omega) hall (fun k hk => by
          rw [Nat.zero_add, Array.getElem?_append_left (by simpa using hk)]
          simp) (hseg ((Fr.drewAlloc w _).mono fun _ _ => trivial))
      simpa using this
    · simp at hb
      subst hb
      exact ⟨by simp, .inl (Nat.le_refl _)⟩
  · have hle : xs.length + ys.length ≤ c := by omega
    rcases h with ⟨rfl, rfl, rfl⟩ | ⟨g, o, c', cur, e2, rfl, h2, h3, h4, h5, h6⟩
    · injection hv with _ _ hv
      subst hv
      have hy : ys = [] := List.eq_nil_of_length_eq_zero (by simpa using hle)
      subst hy
      have hrun := run_app_nil (P := P) (ty := ty) ht ht' hi (by rw [hsz]; exact hn)
      exact ⟨_, _, [], hrun, .inl ⟨rfl, rfl, rfl⟩, Fr.refl _ _, by simp, by simp, _, _, _, rfl⟩
    · injection hv with hv1 hv2 hv3
      subst hv3
      have hfit : o + xs.length * t.n + news.length ≤ cur.size := by
        have := Nat.mul_le_mul_right t.n hle
        rw [Nat.add_mul] at this
        omega
      have hrun := run_app_room (P := P) (ty := ty) ht ht' hi h2 (by rw [hsz]; exact hn) h1 hle (by rw [hsz]; exact hfit)
      rw [hsz] at hrun
      have hfr : Fr w (w.setRow g (cur.toList.take (o + xs.length * t.n) ++ news ++ cur.toList.drop (o + xs.length * t.n + news.length)).toArray) (fun b => b ∉ bs) :=
        (Fr.setRow w g _).mono fun b hb e => hb (by rw [h5, e]; simp)
      refine ⟨_, _, [g], hrun, ?_, hfr, by simp, fun b hb => ?_, _, _, _, rfl⟩
      · have := OwL.of_cells (P := P) (t := t) (B := B) (zs := xs ++ ys) (all := olds ++ news) (c := c') (o := o) (setRow_heap w g cur (cur.toList.take (o + xs.length * t.n) ++ news ++ cur.toList.drop (o + xs.length * t.n + news.length)).toArray e2 (0, 0) h2)
          (by simpa using hle) (by
            have : (cur.toList.take (o + xs.length * t.n) ++ news ++ cur.toList.drop (o + xs.length * t.n + news.length)).toArray.size = cur.size := by simp; omega
            rw [this]
            exact h4) hall (fun k hk => by
            rw [seg_at hfit]
            by_cases hk1 : k < olds.length
            · rw [if_pos (by omega), List.getElem?_append_left hk1]
              obtain ⟨A', c2, hA, _, hr⟩ := ho
              have hx : 0 < xs.length := by
                rcases Nat.eq_zero_or_pos xs.length with h0 | h0
                · rw [h0] at hol; simp at hol; rw [hol] at hk1; simp at hk1
                · exact h0
              obtain ⟨g', o', hA', hcl⟩ := hr hx
              injection hA with hA1 hA2 hA3
              rw [← hA1] at hA'
              injection hA' with hA'
              injection hA' with hg' ho'
              subst hg'
              subst ho'
              have := hcl k hk1
              rw [cell_of_heap h2] at this
              rw [this, List.getElem?_eq_getElem hk1]
            · rw [if_neg (by omega), if_pos (by simp at hk; omega), List.getElem?_append_right (by omega)]
              congr 1
              omega) (hseg (hfr.mono hB))
        simpa using this
      · simp at hb
        subst hb
        exact ⟨by simpa using hlow b (by rw [h5]; simp), .inr (by rw [h5]; simp)⟩

def RowsR (P : Program) (t : Ty) (w : World) (B : Nat → Prop) (us : List Value) (bss : List (List Nat)) (xs : List (List t.T)) : Prop :=
  us.length = xs.length ∧ bss.length = xs.length ∧ ∀ (i : Nat) (h : i < xs.length), ∃ u b, us[i]? = some u ∧ u.oneCell' = true ∧ bss[i]? = some b ∧ OwL P t w B u xs[i] b

theorem OwD.reads {t : Ty} {v : Value} {xs : List (List t.T)} {bs : List Nat} (h : OwD P t w B v xs none bs) :
    ∃ A c us bss hd, v = .slice A xs.length c ∧ xs.length ≤ c ∧ Reads w 1 xs.length v us ∧ RowsR P t w B us bss xs ∧ bs = hd ++ bss.flatten ∧
      ((v = .slice none 0 0 ∧ xs = [] ∧ hd = []) ∨ ∃ g o cur e, A = some ⟨g, o, none⟩ ∧ hd = [g] ∧ w.heap[g]? = some (.cells cur e (0, 0)) ∧ o + c ≤ cur.size) := by
  rcases h with ⟨rfl, rfl, rfl⟩ | ⟨g, o, c, cur, e, bss, rfl, h2, h3, h4, h5, h6, h7⟩
  · exact ⟨none, 0, [], [], [], rfl, Nat.le_refl _, ⟨none, 0, rfl, by simp, fun h => absurd h (by simp)⟩, ⟨rfl, rfl, fun i h => absurd h (by simp)⟩, rfl, .inl ⟨rfl, rfl, rfl⟩⟩
  · obtain ⟨us, h8, h9, h10⟩ := row_cells (w := w) (g := g) (o := o) (k := 1) (Q := fun i us => ∀ h : i < xs.length, ∃ u b, us = [u] ∧ u.oneCell' = true ∧ bss[i]? = some b ∧ OwL P t w B u xs[i] b) xs.length (fun i hi => by
      obtain ⟨u, h8, h9, h10⟩ := h7 i hi
      rcases h10 with ⟨h, _⟩ | ⟨b, h10, h11⟩
      · cases h
      · refine ⟨[u], rfl, fun j hj => ?_, fun _ => ⟨u, b, rfl, h9, h10, h11⟩⟩
        have : j = 0 := by simp at hj; omega
        subst this
        rw [cell_of_heap h2]
        simpa using h8)
    refine ⟨_, c, us, bss, [g], rfl, h3, ⟨_, c, rfl, by simpa using h8, fun _ => ⟨g, o, rfl, h9⟩⟩, ⟨by simpa using h8, h6, fun i hi => ?_⟩, h5, .inr ⟨g, o, cur, e, rfl, rfl, h2, h4⟩⟩
    obtain ⟨u, b, h11, h12, h13, h14⟩ := h10 i hi hi
    refine ⟨u, b, ?_, h12, h13, h14⟩
    have : (us.drop (i * 1)).take 1 = [u] := h11
    have h0 := congrArg (fun l : List Value => l[0]?) this
    simp only [List.getElem?_take, List.getElem?_drop] at h0
    simpa using h0

theorem RowsR.next {t : Ty} {us : List Value} {bss : List (List Nat)} {xs : List (List t.T)} {w' : World} (h : RowsR P t w B us bss xs) (hf : Fr w w' B) (hb : ∀ b ∈ bss.flatten, w'.heap[b]? = w.heap[b]?) : RowsR P t w' B us bss xs := by
  refine ⟨h.1, h.2.1, fun i hi => ?_⟩
  obtain ⟨u, b, h1, h2, h3, h4⟩ := h.2.2 i hi
  exact ⟨u, b, h1, h2, h3, OwL.next h4 hf (fun _ h => h) fun x hx => hb x (List.mem_flatten.2 ⟨b, List.mem_of_getElem? h3, hx⟩)⟩

theorem RowsR.append {t : Ty} {us vs : List Value} {bss css : List (List Nat)} {xs ys : List (List t.T)} (h : RowsR P t w B us bss xs) (h' : RowsR P t w B vs css ys) : RowsR P t w B (us ++ vs) (bss ++ css) (xs ++ ys) := by
  refine ⟨by simp [h.1, h'.1], by simp [h.2.1, h'.2.1], fun i hi => ?_⟩
  by_cases hlt : i < xs.length
  · obtain ⟨u, b, h1, h2, h3, h4⟩ := h.2.2 i hlt
    refine ⟨u, b, ?_, h2, ?_, by rw [List.getElem_append_left hlt]; exact h4⟩
    · rw [List.getElem?_append_left (by rw [h.1]; exact hlt)]; exact h1
    · rw [List.getElem?_append_left (by rw [h.2.1]; exact hlt)]; exact h3
  · obtain ⟨u, b, h1, h2, h3, h4⟩ := h'.2.2 (i - xs.length) (by simp at hi; omega)
    refine ⟨u, b, ?_, h2, ?_, by rw [List.getElem_append_right (by omega)]; exact h4⟩
    · rw [List.getElem?_append_right (by rw [h.1]; omega), h.1]; exact h1
    · rw [List.getElem?_append_right (by rw [h.2.1]; omega), h.2.1]; exact h3

theorem RowsR.one {t : Ty} {us : List Value} {bss : List (List Nat)} {xs : List (List t.T)} (h : RowsR P t w B us bss xs) : ∀ u ∈ us, u.oneCell' = true := fun u hu => by
  obtain ⟨k, hk, rfl⟩ := List.getElem_of_mem hu
  obtain ⟨u', b, h1, h2, _⟩ := h.2.2 k (by rw [← h.1]; exact hk)
  rw [List.getElem?_eq_getElem hk] at h1
  injection h1 with h1
  rw [h1]
  exact h2

theorem OwD.of_cells {t : Ty} {g o c : Nat} {cur : Array Value} {e : TypeId} {zs : List (List t.T)} {all : List Value} {bss : List (List Nat)} (hg : w.heap[g]? = some (.cells cur e (0, 0))) (hc : zs.length ≤ c)
    (hs : o + c ≤ cur.size) (hr : RowsR P t w B all bss zs) (hat : ∀ k, k < all.length → cur[o + k]? = all[k]?) :
    OwD P t w B (.slice (some ⟨g, o, none⟩) zs.length c) zs none (g :: bss.flatten) := by
  refine .inr ⟨g, o, c, cur, e, bss, rfl, hg, hc, hs, rfl, hr.2.1, fun i hi => ?_⟩
  obtain ⟨u, b, h1, h2, h3, h4⟩ := hr.2.2 i hi
  exact ⟨u, by rw [hat i (by rw [hr.1]; exact hi)]; exact h1, h2, .inr ⟨b, h3, h4⟩⟩

theorem OwD.app {t : Ty} {ts ts' ty e e' : TypeId} {i : TypeInfo} {z : Value} (ht : P.underlying ts = some (.slice e)) (ht' : P.underlying ts' = some (.slice e')) (hi : P.info? e = some i) (hz : i.zero = some z)
    (hby : i.bytes ≤ 128) (hsz : i.size = 1) (hzs : z.cells.size = 1) {v y : Value} {xs ys : List (List t.T)} {bs bs2 : List Nat} (h : OwD P t w B v xs none bs) (h' : OwD P t w B y ys none bs2)
    (hB : ∀ b, B b → b ∉ bs) (hlow : ∀ b, b ∈ bs ∨ b ∈ bs2 → b < w.heap.size) (hnd : bs.Nodup) (hnd2 : bs2.Nodup) (hdis : ∀ b ∈ bs, b ∉ bs2) (hroom : xs.length + ys.length ≤ 1099511627776) :
    ∃ v' w' bs', (Builtin.append_ #[ts, ts'] ty #[v, y]).run P w = .ok v' w' ∧ OwD P t w' B v' (xs ++ ys) none bs' ∧ Fr w w' (fun b => b ∉ bs) ∧ bs'.Nodup ∧
      (∀ b ∈ bs', b < w'.heap.size ∧ (w.heap.size ≤ b ∨ b ∈ bs ∨ b ∈ bs2)) ∧ ∃ A n c, v' = .slice A n c := by
  obtain ⟨A, c, olds, bss, hd, hv, hc, ho, hor, hbs, hor2⟩ := h.reads
  obtain ⟨A2, c2, news, css, hd2, hv2, hc2, hn, hnr, hbs2, _⟩ := h'.reads
  have hol : olds.length = xs.length := hor.1
  have hnl : news.length = ys.length := hnr.1
  have m1 : ∀ x ∈ bss.flatten, x ∈ bs := fun x hx => by rw [hbs]; exact List.mem_append_right _ hx
  have m2 : ∀ x ∈ css.flatten, x ∈ bs2 := fun x hx => by rw [hbs2]; exact List.mem_append_right _ hx
  have hfl : (bss ++ css).flatten = bss.flatten ++ css.flatten := List.flatten_append
  have nd1 : bss.flatten.Nodup := by rw [hbs] at hnd; exact (List.nodup_append.1 hnd).2.1
  have nd2 : css.flatten.Nodup := by rw [hbs2] at hnd2; exact (List.nodup_append.1 hnd2).2.1
  have hndf : (bss ++ css).flatten.Nodup := by
    rw [hfl, List.nodup_append]
    exact ⟨nd1, nd2, fun a ha b hb e => hdis a (m1 a ha) (m2 a (e ▸ hb))⟩
  have hmem : ∀ x ∈ (bss ++ css).flatten, x ∈ bs ∨ x ∈ bs2 := fun x hx => by
    rw [hfl] at hx
    rcases List.mem_append.1 hx with h | h
    · exact .inl (m1 x h)
    · exact .inr (m2 x h)
  by_cases hg : c < xs.length + ys.length
  · subst hv
    have hrun := run_app_grow (P := P) (ty := ty) ht ht' hi hz hby (by rw [hsz]; exact ho) (by rw [hsz]; exact hn) hg hroom
    have hge := grownCap_ge w (xs.length + ys.length) c e
    have hrr := (hor.append hnr).next ((Fr.drewAlloc w (.cells (olds.toArray ++ news.toArray ++ Builtin.zeroCells z.cells (grownCap w (xs.length + ys.length) c e - (xs.length + ys.length))) e)).mono fun _ _ => trivial)
      (fun b hb => (Fr.drewAlloc w _).block b (hlow b (hmem b hb)) trivial)
    refine ⟨_, _, w.heap.size :: (bss ++ css).flatten, hrun, ?_, (Fr.drewAlloc w _).mono fun _ _ => trivial, List.nodup_cons.2 ⟨fun hm => Nat.lt_irrefl _ (hlow _ (hmem _ hm)), hndf⟩, fun b hb => ?_, _, _, _, rfl⟩
    · have := OwD.of_cells (P := P) (t := t) (B := B) (zs := xs ++ ys) (all := olds ++ news) (c := grownCap w (xs.length + ys.length) c e) (o := 0) (heap_drew w (.cells (olds.toArray ++ news.toArray ++ Builtin.zeroCells z.cells (grownCap w (xs.length + ys.length) c e - (xs.length + ys.length))) e)) (by simpa using hge)
        (by
          simp only [Array.size_append, List.size_toArray, size_zeroCells, hzs, hol, hnl]
          omega) hrr (fun k hk => by
          rw [Nat.zero_add, Array.getElem?_append_left (by simpa using hk)]
          simp)
      simpa using this
    · rcases List.mem_cons.1 hb with rfl | hb
      · exact ⟨by simp, .inl (Nat.le_refl _)⟩
      · exact ⟨Nat.lt_of_lt_of_le (hlow b (hmem b hb)) (Fr.drewAlloc w _).size, .inr (hmem b hb)⟩
  · have hle : xs.length + ys.length ≤ c := by omega
    rcases hor2 with ⟨rfl, rfl, rfl⟩ | ⟨g, o, cur, e2, rfl, rfl, h2, h4⟩
    · injection hv with _ _ hv
      subst hv
      have hy : ys = [] := List.eq_nil_of_length_eq_zero (by simpa using hle)
      subst hy
      have hrun := run_app_nil (P := P) (ty := ty) ht ht' hi (by rw [hsz]; exact hn)
      exact ⟨_, _, [], hrun, .inl ⟨rfl, rfl, rfl⟩, Fr.refl _ _, by simp, by simp, _, _, _, rfl⟩
    · subst hv
      have hfit : o + xs.length * 1 + news.length ≤ cur.size := by omega
      have hone := hnr.one
      have hrun := run_app_room (P := P) (ty := ty) ht ht' hi h2 (by rw [hsz]; exact hn) hone hle (by rw [hsz]; exact hfit)
      rw [hsz] at hrun
      have hgbs : g ∈ bs := by rw [hbs]; simp
      have hgn : g ∉ bss.flatten := fun hm => by
        rw [hbs] at hnd
        exact (List.nodup_append.1 hnd).2.2 g (by simp) g hm rfl
      have hgn2 : ∀ x ∈ (bss ++ css).flatten, x ≠ g := fun x hx e => by
        subst e
        rw [hfl] at hx
        rcases List.mem_append.1 hx with h | h
        · exact hgn h
        · exact hdis x hgbs (m2 x h)
      have hfr : Fr w (w.setRow g (cur.toList.take (o + xs.length * 1) ++ news ++ cur.toList.drop (o + xs.length * 1 + news.length)).toArray) (fun b => b ∉ bs) :=
        (Fr.setRow w g _).mono fun b hb e => hb (by rw [e]; exact hgbs)
      have hrr := (hor.append hnr).next (hfr.mono hB) (fun b hb => setRow_other w g b _ (hgn2 b hb))
      refine ⟨_, _, g :: (bss ++ css).flatten, hrun, ?_, hfr, List.nodup_cons.2 ⟨fun hm => hgn2 g hm rfl, hndf⟩, fun b hb => ?_, _, _, _, rfl⟩
      · have := OwD.of_cells (P := P) (t := t) (B := B) (zs := xs ++ ys) (all := olds ++ news) (c := c) (o := o) (setRow_heap w g cur (cur.toList.take (o + xs.length * 1) ++ news ++ cur.toList.drop (o + xs.length * 1 + news.length)).toArray e2 (0, 0) h2)
          (by simpa using hle) (by
            have : (cur.toList.take (o + xs.length * 1) ++ news ++ cur.toList.drop (o + xs.length * 1 + news.length)).toArray.size = cur.size := by simp; omega
            rw [this]
            exact h4) hrr (fun k hk => by
            rw [seg_at hfit]
            by_cases hk1 : k < olds.length
            · rw [if_pos (by omega), List.getElem?_append_left hk1]
              obtain ⟨A', c3, hA, _, hr⟩ := ho
              obtain ⟨g', o', hA', hcl⟩ := hr (by omega)
              injection hA with hA1 hA2 hA3
              rw [← hA1] at hA'
              injection hA' with hA'
              injection hA' with hg' ho'
              subst hg'
              subst ho'
              have := hcl k hk1
              rw [cell_of_heap h2] at this
              rw [this, List.getElem?_eq_getElem hk1]
            · rw [if_neg (by omega), if_pos (by simp at hk; omega), List.getElem?_append_right (by omega)]
              congr 1
              omega)
        simpa using this
      · rcases List.mem_cons.1 hb with rfl | hb
        · exact ⟨by simpa using hlow b (.inl hgbs), .inr (.inl hgbs)⟩
        · exact ⟨by simpa using hlow b (hmem b hb), .inr (hmem b hb)⟩

theorem seg_mem {us : List Value} {k n i : Nat} (hl : us.length = n * k) (hi : i < us.length) : ∃ j, j < n ∧ us[i] ∈ (us.drop (j * k)).take k := by
  have hk : 0 < k := by
    rcases Nat.eq_zero_or_pos k with h0 | h0
    · rw [h0, Nat.mul_zero] at hl; omega
    · exact h0
  refine ⟨i / k, by rw [Nat.div_lt_iff_lt_mul hk, ← hl]; exact hi, ?_⟩
  have hm := Nat.mod_lt i hk
  have he : i / k * k + i % k = i := Nat.div_add_mod' i k
  refine List.mem_of_getElem? (i := i % k) ?_
  rw [List.getElem?_take, if_pos hm, List.getElem?_drop, he]
  exact List.getElem?_eq_getElem hi

theorem Rd.reads {e : TypeId} {t : Ty} {v : Value} {ys : List t.T} (h : Rd P (.list e t) w B [v] ys) :
    ∃ news, Reads w t.n ys.length v news ∧ (∀ u ∈ news, u.oneCell' = true) ∧ ∀ (i : Nat) (h : i < ys.length), Rd P t w B ((news.drop (i * t.n)).take t.n) ys[i] := by
  obtain ⟨A, c, hv, hc, hr⟩ := h
  injection hv with hv
  subst hv
  rcases Nat.eq_zero_or_pos (ys : List t.T).length with h0 | h0
  · exact ⟨[], ⟨A, c, rfl, by simp [h0], fun h => absurd h (by omega)⟩, by simp, fun i h => absurd h (by omega)⟩
  · obtain ⟨g, o, hA, hg, hi⟩ := hr h0
    obtain ⟨us, h7, h8, h9⟩ := row_cells (w := w) (g := g) (o := o) (k := t.n) (Q := fun i us => ∀ h : i < (ys : List t.T).length, Rd P t w B us ys[i]) (ys : List t.T).length (fun i hlt => by
      obtain ⟨us, h7, h8, h9⟩ := hi i hlt
      exact ⟨us, h7, h8, fun _ => h9⟩)
    refine ⟨us, ⟨A, c, rfl, h7, fun _ => ⟨g, o, hA, h8⟩⟩, fun u hu => ?_, fun i hlt => h9 i hlt hlt⟩
    obtain ⟨k, hk, rfl⟩ := List.getElem_of_mem hu
    obtain ⟨j, hj, hm⟩ := seg_mem h7 hk
    exact (h9 j hj hj).one _ hm

theorem OwL.cut {t : Ty} {A A' : Option Addr} {n c sz : Nat} {xs : List t.T} {bs : List Nat} (h : OwL P t w B (.slice A n c) xs bs) {lo hi : Int} (h0 : 0 ≤ lo) (h1 : lo ≤ hi) (h2 : hi ≤ n) (hsz : sz = t.n) (hs : SubA A A' c lo.toNat sz) :
    OwL P t w B (.slice A' (hi - lo).toNat (c - lo.toNat)) (tCut xs lo hi) bs := by
  obtain ⟨k, hk1, hk2, rfl⟩ := hs
  subst hsz
  rcases h with ⟨h, rfl, rfl⟩ | ⟨g, o, c', cur, e, hv, hh, hc, hs, rfl, hel⟩
  · injection h with q1 q2 q3
    subst q1 q2 q3
    have e1 : lo = 0 := by omega
    have e2 : hi = 0 := by omega
    subst e1 e2
    exact .inl ⟨by simp, by simp [tCut], rfl⟩
  · injection hv with q1 q2 q3
    subst q1 q2 q3
    have hl : (tCut xs lo hi).length = (hi - lo).toNat := by simp only [tCut, List.length_drop, List.length_take]; omega
    obtain ⟨l, rfl⟩ : ∃ l : Nat, lo = (l : Int) := ⟨lo.toNat, by omega⟩
    obtain ⟨p, rfl⟩ : ∃ p : Nat, hi = (p : Int) := ⟨hi.toNat, by omega⟩
    simp only [Int.toNat_natCast] at *
    have hlc : l ≤ c := by omega
    have hmul : l * t.n + (c - l) * t.n = c * t.n := by rw [← Nat.add_mul]; congr 1; omega
    refine .inr ⟨g, o + k, c - l, cur, e, ?_, hh, by rw [hl]; omega, by omega, rfl, fun i hi' => ?_⟩
    · rw [hl]
      simp only [Option.map_some, add_flat]
    · rw [hl] at hi'
      have hlt : l + i < xs.length := by omega
      obtain ⟨us, r1, r2, r3⟩ := hel (l + i) hlt
      have hne : c ≠ l := by omega
      have hk := hk2 hne
      subst hk
      refine ⟨us, r1, fun j hj => ?_, ?_⟩
      · have := r2 j hj
        rw [Nat.add_mul] at this
        rw [← this]
        congr 1
        omega
      · have : (tCut xs (l : Int) (p : Int))[i]'(by rw [hl]; exact hi') = xs[l + i] := by simp [tCut]
        rw [this]
        exact r3

theorem appSrc_own {σ1 : Sto} (O : Obs P s.sto σ1 φ β w B) (hσ : ∀ id o, σ1 id = some o → s.sto id = some o) {e : TypeId} {t : Ty} {m : Mo} (hm : m ≠ .deep) {y : V} {vy : Value} {ys : List t.T} {u : Upd}
    (hy : VR P s.sto φ w B y vy) (h : appSrc σ1 e t m y = some (ys, u)) :
    u = [] ∧ ∃ news, Reads w t.n ys.length vy news ∧ (∀ u ∈ news, u.oneCell' = true) ∧ ∀ (i : Nat) (h : i < ys.length), Rd P t w B ((news.drop (i * t.n)).take t.n) ys[i] := by
  have nil : ∀ {v : Value}, v = .slice none 0 0 → ∃ news, Reads w t.n ([] : List t.T).length v news ∧ (∀ u ∈ news, u.oneCell' = true) ∧ ∀ (i : Nat) (h : i < ([] : List t.T).length), Rd P t w B ((news.drop (i * t.n)).take t.n) ([] : List t.T)[i] := by
    rintro v rfl
    exact ⟨[], ⟨none, 0, rfl, by simp, fun h => absurd h (by simp)⟩, by simp, fun i h => absurd h (by simp)⟩
  unfold appSrc at h
  split at h
  · exact absurd rfl hm
  · cases hf : t.flat with
    | true =>
      rw [hf] at h
      simp only [cond_true] at h
      obtain ⟨zs, h1, h⟩ := ob_some h
      simp only [Option.some.injEq, Prod.mk.injEq] at h
      obtain ⟨rfl, rfl⟩ := h
      obtain ⟨us, rfl, hr⟩ := asT_rel O hσ hy h1
      have hl := hr.len
      obtain ⟨v, rfl⟩ := List.length_eq_one_iff.1 hl
      obtain ⟨news, h2, h3, h4⟩ := Rd.reads hr
      exact ⟨rfl, news, h2, h3, fun i hi => (h4 i hi).flat hf⟩
    | false =>
      rw [hf] at h
      simp only [cond_false] at h
      split at h
      · rename_i a z
        obtain ⟨zs, h1, h⟩ := ob_some h
        simp only [Option.some.injEq, Prod.mk.injEq] at h
        obtain ⟨rfl, rfl⟩ := h
        obtain ⟨e1, rfl⟩ := castT_some h1
        subst e1
        obtain ⟨us, rfl, hr⟩ := hy
        have hl := hr.len
        obtain ⟨v, rfl⟩ := List.length_eq_one_iff.1 hl
        exact ⟨rfl, Rd.reads hr⟩
      · simp only [Option.some.injEq, Prod.mk.injEq] at h
        obtain ⟨rfl, rfl⟩ := h
        exact ⟨rfl, nil hy⟩
      · rename_i id
        split at h
        · rename_i e' t' xs hv ho
          obtain ⟨zs, h1, h⟩ := ob_some h
          simp only [Option.some.injEq, Prod.mk.injEq] at h
          obtain ⟨rfl, rfl⟩ := h
          obtain ⟨e1, rfl⟩ := castT_some h1
          injection e1 with e1 e2
          subst e1
          subst e2
          obtain ⟨v, h2, h3⟩ := O id _ ho
          rw [hy.1] at h2
          injection h2 with h2
          subst h2
          obtain ⟨A, c, news, h4, _, h5, h6, h7⟩ := OwL.reads h3
          exact ⟨rfl, news, h5, h6, h7⟩
        · cases h
      · rename_i id sz lo hi
        split at h
        · rename_i e' t' xs hv ho
          obtain ⟨zs, h1, h⟩ := ob_some h
          simp only [Option.some.injEq, Prod.mk.injEq] at h
          obtain ⟨rfl, rfl⟩ := h
          obtain ⟨e1, rfl⟩ := castT_some h1
          injection e1 with e1 e2
          subst e1
          subst e2
          obtain ⟨A, n, c, A', hφ, k0, k1, k2, k3, k4, k5, rfl⟩ := hy
          obtain ⟨v, h2, h3⟩ := O id _ ho
          rw [hφ] at h2
          injection h2 with h2
          subst h2
          obtain ⟨A, c, news, h4, _, h5, h6, h7⟩ := OwL.reads (OwL.cut (show OwL P _ w B _ xs (β id) from h3) k0 k1 k2 (k4 _ _ _ _ _ _ (hσ _ _ ho)) k5)
          exact ⟨rfl, news, h5, h6, h7⟩
        · cases h
      · cases h

theorem appSrc_deep {σ1 : Sto} (O : Obs P s.sto σ1 φ β w B) {e : TypeId} {t : Ty} {y : V} {vy : Value} {ys : List t.T} {u : Upd}
    (hy : VR P s.sto φ w B y vy) (h : appSrc σ1 e t .deep y = some (ys, u)) :
    (u = [] ∧ ys = [] ∧ vy = .slice none 0 0) ∨ ∃ id e' hv, u = [(id, none)] ∧ σ1 id = some (.sl e' t .deep ys hv none) ∧ ObR P s.sto φ w B vy (β id) (.sl e' t .deep ys hv none) := by
  simp only [appSrc] at h
  split at h
  · rename_i id
    split at h
    · rename_i e' t' xs hv ho
      obtain ⟨zs, h1, h⟩ := ob_some h
      simp only [Option.some.injEq, Prod.mk.injEq] at h
      obtain ⟨rfl, rfl⟩ := h
      obtain ⟨e1, rfl⟩ := castT_some h1
      injection e1 with e1 e2
      subst e1
      subst e2
      obtain ⟨v, h2, h3⟩ := O id _ ho
      rw [hy.1] at h2
      injection h2 with h2
      subst h2
      exact .inr ⟨id, _, hv, rfl, ho, h3⟩
    · cases h
  · simp only [Option.some.injEq, Prod.mk.injEq] at h
    obtain ⟨rfl, rfl⟩ := h
    exact .inl ⟨rfl, rfl, hy⟩
  · cases h

theorem Rel.take (Rl : Rel P B new s tmps w φ β) {id : Id} (hid : new id) {o : PObj} {hdr : Value} {bs' : List Nat} {w' : World} {gone : List Id} {bs : List Nat}
    (hst : ∀ c ∈ gone, s.sto c ≠ none) (hbs : ∀ b ∈ bs, ∃ c ∈ gone, b ∈ β c) (hK : Fr w w' (fun b => b ∉ bs)) (hnd : bs'.Nodup)
    (hnew : ∀ b ∈ bs', b < w'.heap.size ∧ (w.heap.size ≤ b ∨ ∃ c ∈ gone, b ∈ β c))
    (hobj : ∀ {σ' φ'}, Nx s.sto φ w B σ' φ' w' B → ObR P σ' φ' w' B hdr bs' o) :
    (Nx s.sto φ w B (s.sto.puts ((gone.map fun i => (i, none)) ++ [(id, some o)])) (setH φ id (some hdr)) w' B ∧ Gr s.sto w B β (s.sto.puts ((gone.map fun i => (i, none)) ++ [(id, some o)])) w' B (setH β id bs')) ∧
      Rel P B (fun i => new i ∧ i ≠ id) ⟨s.env, s.sto.puts ((gone.map fun i => (i, none)) ++ [(id, some o)])⟩ tmps w' (setH φ id (some hdr)) (setH β id bs') := by
  refine Rel.make (gone := gone) (K := fun b => b ∉ bs) Rl hid (by rw [puts_append]; exact put_same _ _ _)
    (fun j hj hm => by rw [puts_append]; simp only [Sto.puts]; rw [put_other _ _ hj, puts_none, if_pos hm])
    (fun j hj hm => by rw [puts_append]; simp only [Sto.puts]; rw [put_other _ _ hj, puts_none, if_neg hm]) hK (fun b hb hm => by obtain ⟨c, hc, hbc⟩ := hbs b hm; exact hb c (hst c hc) hbc) (fun b hb hm => ?_) (fun j hj hs b hb hm => ?_) hnd (fun b hb => ?_) hobj
  · obtain ⟨c, hc, hbc⟩ := hbs b hm
    obtain ⟨o, ho⟩ := Option.ne_none_iff_exists'.1 (hst c hc)
    obtain ⟨_, _, _, _, h4⟩ := Rl.obj c o ho
    exact (h4 b hbc).1 hb
  · obtain ⟨c, hc, hbc⟩ := hbs b hm
    exact Rl.sep c j (fun e => hj (e ▸ hc)) (hst c hc) hs b hbc hb
  · obtain ⟨h1, h2⟩ := hnew b hb
    exact ⟨h1, h2.imp _root_.id fun ⟨c, hc, h⟩ => ⟨c, hc, hst c hc, h⟩⟩

theorem isListOf_und (w0 : World) (hΓ : TabOk P Γ) {s e : TypeId} {t : Ty} (h : isListOf Γ s e t = true) : P.underlying s = some (.slice e) ∧
    ∃ i z, P.info? e = some i ∧ i.zero = some z ∧ i.bytes ≤ 128 ∧ i.size = t.n ∧ z.cells.size = t.n := by
  unfold isListOf at h
  split at h
  · rename_i e' t' fs el hs
    obtain ⟨h1, h2⟩ := both_true.1 h
    have h1 := beq_eq h1
    have h2 := tyb_eq h2
    subst h1
    subst h2
    obtain ⟨i, z, u, I⟩ := hΓ _ _ hs
    obtain ⟨hu, _, d', hd', ht⟩ := I.list _ _ rfl
    obtain ⟨i', z', u', I'⟩ := hΓ _ _ hd'
    have hz := (zero_cs (P := P) (w := w0) (B := fun _ => False) (φ := fun _ => none) (σ := fun _ => none) I'.zeroOk).2
    exact ⟨by rw [I.under, hu], i', z', I'.info, I'.zero, I'.bytes (by rw [ht]; exact I.small _ _ rfl), by rw [I'.size, ht], by rw [← ht]; simpa using hz⟩
  · cases h

theorem Rel.blocks (Rl : Rel P B new s tmps w φ β) {id : Id} {o : PObj} (h : s.sto id = some o) : (β id).Nodup ∧ (∀ b ∈ β id, b < w.heap.size) ∧ ∀ b, B b → b ∉ β id := by
  obtain ⟨_, _, _, h3, h4⟩ := Rl.obj id o h
  exact ⟨h3, fun b hb => (h4 b hb).2, fun b hb hm => (h4 b hm).1 hb⟩

theorem eff_app (hΓ : TabOk P Γ) {id : Id} (Rl : Rel P B new s tmps w φ β) (hid : new id) {σr : Sto} (hσ : ∀ id o, σr id = some o → s.sto id = some o) {s1 s2 ty : TypeId} {x y : V} {vx vy : Value} {K : Kont R}
    (hx : VR P s.sto φ w B x vx) (hy : VR P s.sto φ w B y vy) (h : appF Γ σr (some id) s1 s2 x y K = some r) :
    Eff P B (fun i => new i ∧ i ≠ id) s tmps w φ β (Builtin.append_ #[s1, s2] ty #[vx, vy]) K r := by
  unfold appF at h
  split at h
  · rename_i id' e t xs m u e1 hdst
    injection e1 with e1
    subst e1
    split at h
    · rename_i ys u' hsrc
      obtain ⟨hb, h⟩ := cond_some h
      obtain ⟨hb, hft⟩ := both_true.1 hb
      obtain ⟨hb1, hb2⟩ := both_true.1 hb
      obtain ⟨hr, h⟩ := chk_some h
      have hroom : xs.length + ys.length ≤ 1099511627776 := ble_le hr
      obtain ⟨hu1, i, z, hi, hz, hby, hsz, hzs⟩ := isListOf_und w hΓ hb1
      obtain ⟨e2, t2, fs2, el2, i2, z2, hs2, I2⟩ := isList_und hΓ hb2
      have hu2 := I2.under
      -- what is left to read
      have hsub : ∀ gone : List Id, ∀ j o, (σr.puts (gone.map fun i => (i, none))) j = some o → s.sto j = some o ∧ j ∉ gone := by
        intro gone j o ho
        rw [puts_none] at ho
        split at ho
        · cases ho
        · rename_i hj; exact ⟨hσ _ _ ho, hj⟩
      -- rows read
      have own : ∀ (gone : List Id) (bs : List Nat), m ≠ .deep → (∀ c ∈ gone, s.sto c ≠ none) → bs.Nodup → (∀ b ∈ bs, ∃ c ∈ gone, b ∈ β c) → OwL P t w B vx xs bs → u = gone.map (fun i => (i, none)) →
          m = .own → Eff P B (fun i => new i ∧ i ≠ id) s tmps w φ β (Builtin.append_ #[s1, s2] ty #[vx, vy]) K r := by
        intro gone bs hm hst hnd hbs ho hu hm2
        subst hm2
        have hmap : (u.map fun p => (p.1, (none : Option PObj))) = gone.map fun i => (i, none) := by rw [hu]; simp
        rw [hmap] at hsrc
        obtain ⟨rfl, news, hn, h1, hrd⟩ := appSrc_own (fun j o ho => by
          obtain ⟨v, h1, h2, _⟩ := Rl.obj j o (hsub gone j o ho).1
          exact ⟨v, h1, h2⟩) (fun j o ho => (hsub gone j o ho).1) hm hy hsrc
        have hBb : ∀ b, B b → b ∉ bs := fun b hb hm => by
          obtain ⟨c, hc, hbc⟩ := hbs b hm
          obtain ⟨o, ho⟩ := Option.ne_none_iff_exists'.1 (hst c hc)
          exact (Rl.blocks ho).2.2 b hb hbc
        have hlow : ∀ b ∈ bs, b < w.heap.size := fun b hm => by
          obtain ⟨c, hc, hbc⟩ := hbs b hm
          obtain ⟨o, ho⟩ := Option.ne_none_iff_exists'.1 (hst c hc)
          exact (Rl.blocks ho).2.1 b hbc
        obtain ⟨v', w', bs', hrun, ho', hf, hnd', hnew, hsl⟩ := OwL.app (ty := ty) hu1 hu2 hi hz hby hsz hzs ho hBb hlow hn h1 hrd hroom
        obtain ⟨n, R'⟩ := Rel.take (id := id) (o := .sl e t .own (tApp xs ys) 0 none) (hdr := v') (bs' := bs') (w' := w') (gone := gone) (bs := bs) Rl hid hst hbs hf hnd'
          (fun b hb => by
            obtain ⟨h1, h2⟩ := hnew b hb
            exact ⟨h1, h2.imp _root_.id (hbs b)⟩) (fun _ => ho')
        subst hu
        rw [List.append_nil] at h
        exact ⟨_, _, _, _, _, _, _, h, hrun, ⟨setH_same _ _ _, hsl⟩, n, R'⟩
      -- rows of its own
      have deep : ∀ (a : TypeId) (b : Ty) (xs' : List (Ty.list a b).T) (gone : List Id) (bs : List Nat) (et : t = .list a b), et ▸ xs = xs' → m = .deep → (∀ c ∈ gone, s.sto c ≠ none) → bs.Nodup → (∀ b ∈ bs, ∃ c ∈ gone, b ∈ β c) →
          OwD P b w B vx xs' none bs → u = gone.map (fun i => (i, none)) → Eff P B (fun i => new i ∧ i ≠ id) s tmps w φ β (Builtin.append_ #[s1, s2] ty #[vx, vy]) K r := by
        intro a b xs' gone bs et hxs hm2 hst hnd hbs ho hu
        subst et
        subst hm2
        simp only at hxs
        subst hxs
        have hmap : (u.map fun p => (p.1, (none : Option PObj))) = gone.map fun i => (i, none) := by rw [hu]; simp
        rw [hmap] at hsrc
        have hBb : ∀ b, B b → b ∉ bs := fun b hb hm => by
          obtain ⟨c, hc, hbc⟩ := hbs b hm
          obtain ⟨o, ho⟩ := Option.ne_none_iff_exists'.1 (hst c hc)
          exact (Rl.blocks ho).2.2 b hb hbc
        have hlow : ∀ b ∈ bs, b < w.heap.size := fun b hm => by
          obtain ⟨c, hc, hbc⟩ := hbs b hm
          obtain ⟨o, ho⟩ := Option.ne_none_iff_exists'.1 (hst c hc)
          exact (Rl.blocks ho).2.1 b hbc
        have fin : ∀ (gone2 : List Id) (bs2 : List Nat), (∀ c ∈ gone2, s.sto c ≠ none ∧ c ∉ gone) → bs2.Nodup → (∀ b ∈ bs2, ∃ c ∈ gone2, b ∈ β c) → OwD P b w B vy ys none bs2 → u' = gone2.map (fun i => (i, none)) →
            Eff P B (fun i => new i ∧ i ≠ id) s tmps w φ β (Builtin.append_ #[s1, s2] ty #[vx, vy]) K r := by
          intro gone2 bs2 hst2 hnd2 hbs2 ho2 hu2'
          obtain ⟨v', w', bs', hrun, ho', hf, hnd', hnew, hsl⟩ := OwD.app (ty := ty) hu1 hu2 hi hz hby hsz hzs ho ho2 hBb (fun b hb => by
            rcases hb with hb | hb
            · exact hlow b hb
            · obtain ⟨c, hc, hbc⟩ := hbs2 b hb
              obtain ⟨o, ho⟩ := Option.ne_none_iff_exists'.1 (hst2 c hc).1
              exact (Rl.blocks ho).2.1 b hbc) hnd hnd2 (fun b hb hb2 => by
              obtain ⟨c, hc, hbc⟩ := hbs b hb
              obtain ⟨c2, hc2, hbc2⟩ := hbs2 b hb2
              exact Rl.sep c c2 (fun e => (hst2 c2 hc2).2 (e ▸ hc)) (hst c hc) (hst2 c2 hc2).1 b hbc hbc2) hroom
          obtain ⟨n, R'⟩ := Rel.take (id := id) (o := .sl e (.list a b) .deep (tApp xs ys) 0 none) (hdr := v') (bs' := bs') (w' := w') (gone := gone ++ gone2) (bs := bs) Rl hid
            (fun c hc => by
              rcases List.mem_append.1 hc with h | h
              · exact hst c h
              · exact (hst2 c h).1)
            (fun b hb => by
              obtain ⟨c, hc, hbc⟩ := hbs b hb
              exact ⟨c, List.mem_append_left _ hc, hbc⟩) hf hnd'
            (fun b hb => by
              obtain ⟨h1, h2⟩ := hnew b hb
              refine ⟨h1, h2.imp _root_.id fun h => ?_⟩
              rcases h with h | h
              · obtain ⟨c, hc, hbc⟩ := hbs b h
                exact ⟨c, List.mem_append_left _ hc, hbc⟩
              · obtain ⟨c, hc, hbc⟩ := hbs2 b h
                exact ⟨c, List.mem_append_right _ hc, hbc⟩) (fun _ => ho')
          subst hu
          subst hu2'
          rw [← List.map_append] at h
          exact ⟨_, _, _, _, _, _, _, h, hrun, ⟨setH_same _ _ _, hsl⟩, n, R'⟩
        rcases appSrc_deep (fun j o ho => by
          obtain ⟨v, h1, h2, _⟩ := Rl.obj j o (hsub gone j o ho).1
          exact ⟨v, h1, h2⟩) hy hsrc with ⟨rfl, rfl, rfl⟩ | ⟨id2, e', hv, rfl, ho2, hob2⟩
        · exact fin [] [] (by simp) (by simp) (by simp) (.inl ⟨rfl, rfl, rfl⟩) rfl
        · obtain ⟨h3, h4⟩ := hsub gone _ _ ho2
          exact fin [id2] (β id2) (fun c hc => by
            simp at hc
            subst hc
            exact ⟨by rw [h3]; simp, h4⟩) (Rl.blocks h3).1 (fun b hb => ⟨id2, by simp, hb⟩) hob2 rfl
      have hld : t.isList = true → ∃ a b, t = .list a b := fun h => by
        cases t <;> simp only [Ty.isList] at h <;> first | (cases h; done) | exact ⟨_, _, rfl⟩
      unfold appDst at hdst
      split at hdst
      · split at hdst
        · rename_i e' t' fs el hs
          simp only [Option.some.injEq, Sigma.mk.injEq] at hdst
          obtain ⟨hp, hq⟩ := hdst
          injection hp with hp1 hp2
          subst hp1
          subst hp2
          have hq := eq_of_heq hq
          simp only [Prod.mk.injEq] at hq
          obtain ⟨rfl, hm, rfl⟩ := hq
          cases hx
          cases hl : t'.isList with
          | false =>
            have : m = .own := by rw [← hm]; simp [nilMode, hl]
            exact own [] [] (by rw [this]; simp) (by simp) (by simp) (by simp) (.inl ⟨rfl, rfl, rfl⟩) rfl this
          | true =>
            obtain ⟨a, b, rfl⟩ := hld hl
            cases m with
            | own => exact own [] [] (by simp) (by simp) (by simp) (by simp) (.inl ⟨rfl, rfl, rfl⟩) rfl rfl
            | deep => exact deep a b [] [] [] rfl rfl rfl (by simp) (by simp) (by simp) (.inl ⟨rfl, rfl, rfl⟩) rfl
            | fro =>
              exfalso
              revert hm
              unfold nilMode
              simp only [Ty.isList, cond_true]
              repeat' split
              all_goals simp
        · cases hdst
      · rename_i idx
        obtain ⟨hφ, A, n, c, rfl⟩ := hx
        split at hdst
        · rename_i e' t' xs' hv ho
          simp only [Option.some.injEq, Sigma.mk.injEq] at hdst
          obtain ⟨hp, hq⟩ := hdst
          injection hp with hp1 hp2
          subst hp1
          subst hp2
          have hq := eq_of_heq hq
          simp only [Prod.mk.injEq] at hq
          obtain ⟨rfl, hm, rfl⟩ := hq
          obtain ⟨v, h1, h2, _⟩ := Rl.obj idx _ (hσ _ _ ho)
          rw [hφ] at h1
          injection h1 with h1
          subst h1
          exact own [idx] (β idx) (by rw [← hm]; simp) (fun c hc => by simp at hc; subst hc; rw [hσ _ _ ho]; simp) (Rl.blocks (hσ _ _ ho)).1 (fun b hb => ⟨idx, by simp, hb⟩) h2 rfl hm.symm
        · rename_i e' t' xs' hv ho
          cases hos : ownSrc σr y with
          | true =>
            rw [hos] at hdst
            simp only [cond_true] at hdst
            split at hdst
            · simp only [Option.some.injEq, Sigma.mk.injEq] at hdst
              obtain ⟨hp, hq⟩ := hdst
              injection hp with hp1 hp2
              subst hp1
              subst hp2
              have hq := eq_of_heq hq
              simp only [Prod.mk.injEq] at hq
              obtain ⟨rfl, hm, rfl⟩ := hq
              obtain ⟨v, h1, h2, _⟩ := Rl.obj idx _ (hσ _ _ ho)
              rw [hφ] at h1
              injection h1 with h1
              subst h1
              cases t' <;> first | exact False.elim h2 | skip
              refine own [idx] (β idx) (by rw [← hm]; simp) (fun c hc => by simp at hc; subst hc; rw [hσ _ _ ho]; simp) (Rl.blocks (hσ _ _ ho)).1 (fun b hb => ⟨idx, by simp, hb⟩) ?_ rfl hm.symm
              rcases (show OwD P _ w B _ [] none (β idx) from h2) with h | ⟨g, o, c, cur, e, bss, q1, q2, q3, q4, q5, q6, q7⟩
              · exact .inl h
              · have : bss = [] := List.eq_nil_of_length_eq_zero (by simpa using q6)
                subst this
                exact .inr ⟨g, o, c, cur, e, q1, q2, q3, by simpa [Ty.n] using q4, by simpa using q5, fun i hi => absurd hi (by simp)⟩
            · cases hdst
          | false =>
          rw [hos] at hdst
          simp only [cond_false] at hdst
          simp only [Option.some.injEq, Sigma.mk.injEq] at hdst
          obtain ⟨hp, hq⟩ := hdst
          injection hp with hp1 hp2
          subst hp1
          subst hp2
          have hq := eq_of_heq hq
          simp only [Prod.mk.injEq] at hq
          obtain ⟨rfl, hm, rfl⟩ := hq
          obtain ⟨v, h1, h2, _⟩ := Rl.obj idx _ (hσ _ _ ho)
          rw [hφ] at h1
          injection h1 with h1
          subst h1
          cases t' <;> first | exact False.elim h2 | skip
          exact deep _ _ xs' [idx] (β idx) rfl rfl hm.symm (fun c hc => by simp at hc; subst hc; rw [hσ _ _ ho]; simp) (Rl.blocks (hσ _ _ ho)).1 (fun b hb => ⟨idx, by simp, hb⟩) h2 rfl
        · cases hdst
      · rename_i idx sz lo hi
        obtain ⟨A, n, c, A', hφ, k0, k1, k2, k3, k4, k5, rfl⟩ := hx
        split at hdst
        · rename_i e' t' xs' hv ho
          simp only [Option.some.injEq, Sigma.mk.injEq] at hdst
          obtain ⟨hp, hq⟩ := hdst
          injection hp with hp1 hp2
          subst hp1
          subst hp2
          have hq := eq_of_heq hq
          simp only [Prod.mk.injEq] at hq
          obtain ⟨rfl, hm, rfl⟩ := hq
          obtain ⟨v, h1, h2, _⟩ := Rl.obj idx _ (hσ _ _ ho)
          rw [hφ] at h1
          injection h1 with h1
          subst h1
          exact own [idx] (β idx) (by rw [← hm]; simp) (fun c hc => by simp at hc; subst hc; rw [hσ _ _ ho]; simp) (Rl.blocks (hσ _ _ ho)).1 (fun b hb => ⟨idx, by simp, hb⟩)
            (OwL.cut (show OwL P _ w B _ xs' (β idx) from h2) k0 k1 k2 (k4 _ _ _ _ _ _ (hσ _ _ ho)) k5) rfl hm.symm
        · cases hdst
      · rename_i idx j hv
        split at hdst
        · rename_i e0 e' t' zs hv' ho
          obtain ⟨hb, hdst⟩ := cond_some hdst
          obtain ⟨hbv, hfl⟩ := both_true.1 hb
          have := beq_eq hbv
          subst this
          simp only [Option.some.injEq, Sigma.mk.injEq] at hdst
          obtain ⟨hp, hq⟩ := hdst
          injection hp with hp1 hp2
          subst hp1
          subst hp2
          have hq := eq_of_heq hq
          simp only [Prod.mk.injEq] at hq
          obtain ⟨rfl, hm, rfl⟩ := hq
          subst hm
          have hoS := hσ _ _ ho
          have hmap : (([(idx, some (PObj.sl e0 (.list e' t') .deep zs hv (some j)))] : Upd).map fun p => (p.1, (none : Option PObj))) = [idx].map fun i => (i, none) := rfl
          rw [hmap] at hsrc
          obtain ⟨rfl, news, hn, h1, hrd⟩ := appSrc_own (fun j o ho => by
            obtain ⟨v, h1, h2, _⟩ := Rl.obj j o (hsub [idx] j o ho).1
            exact ⟨v, h1, h2⟩) (fun j o ho => (hsub [idx] j o ho).1) (by simp) hy hsrc
          obtain ⟨hxo, _, _, hcr⟩ := hx
          obtain ⟨g, o, n, c, hφ, j0, j1, hcell⟩ := hcr _ _ _ _ _ hoS
          obtain ⟨v, h2, h3, _, _⟩ := Rl.obj idx _ hoS
          rw [hφ] at h2
          injection h2 with h2
          subst h2
          have h3 : OwD P t' w B _ zs none (β idx) := h3
          obtain ⟨bnd, blow, bB⟩ := Rl.blocks hoS
          rcases h3 with ⟨hx, _⟩ | ⟨g', o', c', cur, e'', bss, hx, h7, h8, h9, h10, h11, h12⟩
          · cases hx
          · injection hx with hx1 hx2 hx3
            injection hx1 with hx1
            injection hx1 with hx1 hx4
            subst hx1
            subst hx4
            have hjl : j.toNat < zs.length := by omega
            obtain ⟨u0, h13, h14, h15⟩ := h12 j.toNat hjl
            rw [cell_of_heap h7, h13] at hcell
            injection hcell with hcell
            subst hcell
            rcases h15 with ⟨hno, _⟩ | ⟨bb, h16, h17⟩
            · cases hno
            have hrdj : rd (.list e' t') zs j = zs[j.toNat] := by simp [rd, hjl]
            have hbb : ∀ x ∈ bb, x ∈ bss.flatten := fun x hx => List.mem_flatten.2 ⟨bb, List.mem_of_getElem? h16, hx⟩
            have hsubb : ∀ x ∈ bss.flatten, x ∈ β idx := fun x hx => by rw [h10]; exact List.mem_cons_of_mem _ hx
            have hnd := bnd
            rw [h10] at hnd
            have hnd := List.nodup_cons.1 hnd
            obtain ⟨v', w', bs', hrun, ho', hf, hnd', hnew, hsl⟩ := OwL.app (ty := ty) (xs := rd (.list e' t') zs j) hu1 hu2 hi hz hby hsz hzs (by rw [hrdj]; exact h17)
              (fun b hb hm => bB b hb (hsubb _ (hbb _ hm))) (fun b hb => blow b (hsubb _ (hbb _ hb))) hn h1 hrd hroom
            have hgbb : g ∉ bb := fun hm => hnd.1 (hbb _ hm)
            have hne : idx ≠ id := fun e => by subst e; rw [Rl.free hid] at hoS; cases hoS
            have hpw := List.pairwise_flatten.1 (show bss.flatten.Pairwise (· ≠ ·) from hnd.2)
            have hset : ∀ x, x ∈ (bss.set j.toNat []).flatten → x ∈ bss.flatten ∧ x ∉ bb := fun x hx => by
              obtain ⟨l, hl, hxl⟩ := List.mem_flatten.1 hx
              obtain ⟨k, hk, rfl⟩ := List.getElem_of_mem hl
              have hk' : k < bss.length := by simpa using hk
              rw [List.getElem_set] at hxl
              split at hxl
              · simp at hxl
              · rename_i hkj
                refine ⟨List.mem_flatten.2 ⟨_, List.getElem_mem hk', hxl⟩, fun hm => ?_⟩
                have hlt2 : j.toNat < bss.length := by omega
                have q2 := List.getElem?_eq_getElem hlt2
                rw [h16] at q2
                injection q2 with q2
                rcases Nat.lt_or_gt_of_ne hkj with hl | hl
                · exact List.pairwise_iff_getElem.1 hpw.2 j.toNat k hlt2 hk' hl x (q2 ▸ hm) x hxl rfl
                · exact List.pairwise_iff_getElem.1 hpw.2 k j.toNat hk' hlt2 hl x hxl x (q2 ▸ hm) rfl
            have hβid : setH (setH β idx (g :: (bss.set j.toNat []).flatten)) id bs' id = bs' := setH_same _ _ _
            have hβidx : setH (setH β idx (g :: (bss.set j.toNat []).flatten)) id bs' idx = g :: (bss.set j.toNat []).flatten := by rw [setH_other _ _ hne, setH_same]
            have hσid : (s.sto.puts ([(idx, some (PObj.sl e0 (.list e' t') .deep zs hv (some j)))] ++ [] ++ [(id, some (.sl e' t' .own (tApp (rd (.list e' t') zs j) ys) 0 none))])) id =
                some (.sl e' t' .own (tApp (rd (.list e' t') zs j) ys) 0 none) := put_same _ _ _
            have hσidx : (s.sto.puts ([(idx, some (PObj.sl e0 (.list e' t') .deep zs hv (some j)))] ++ [] ++ [(id, some (.sl e' t' .own (tApp (rd (.list e' t') zs j) ys) 0 none))])) idx =
                some (PObj.sl e0 (.list e' t') .deep zs hv (some j)) := by
              show ((s.sto.put idx _).put id _) idx = _
              rw [put_other _ _ hne, put_same]
            have hidn : φ id = none := Rl.new id hid
            have hdis : ∀ x ∈ bs', x ∉ g :: (bss.set j.toNat []).flatten := fun x hx hm => by
              rcases (hnew x hx).2 with h | h
              · rcases List.mem_cons.1 hm with rfl | hm
                · exact absurd (blow x (by rw [h10]; simp)) (by omega)
                · exact absurd (blow x (hsubb _ (hset x hm).1)) (by omega)
              · rcases List.mem_cons.1 hm with rfl | hm
                · exact hgbb h
                · exact (hset x hm).2 h
            obtain ⟨n', R'⟩ := Rel.gen (T := fun k => k = id ∨ k = idx) (K := fun b => b ∉ bb) (B' := B) (new' := fun i => new i ∧ i ≠ id) (w' := w') (φ' := setH φ id (some v'))
              (β' := setH (setH β idx (g :: (bss.set j.toNat []).flatten)) id bs')
              (σ' := s.sto.puts ([(idx, some (PObj.sl e0 (.list e' t') .deep zs hv (some j)))] ++ [] ++ [(id, some (.sl e' t' .own (tApp (rd (.list e' t') zs j) ys) 0 none))])) Rl
              (fun k hk => by
                have k1 : k ≠ id := fun e => hk (.inl e)
                have k2 : k ≠ idx := fun e => hk (.inr e)
                refine ⟨?_, setH_other _ _ k1, ?_⟩
                · show ((s.sto.put idx _).put id _) k = _
                  rw [put_other _ _ k1, put_other _ _ k2]
                · rw [setH_other _ _ k1, setH_other _ _ k2])
              (fun k v hk => by
                rw [setH_other]
                · exact hk
                · intro e; subst e; rw [hidn] at hk; cases hk)
              hf (fun b hb hm => hb idx (by rw [hoS]; simp) (hsubb _ (hbb _ hm))) (fun _ h => .inl h) (fun b hb hm => bB b hb (hsubb _ (hbb _ hm)))
              (fun k hk hs b hb hm => Rl.sep idx k (fun e => hk (.inr e.symm)) (by rw [hoS]; simp) hs b (hsubb _ (hbb _ hm)) hb)
              (fun _ h => h) (fun b hb => Nat.lt_of_lt_of_le (Rl.low b hb) hf.size)
              (fun k hk hs b hb => by
                obtain ⟨ok, hok⟩ := Option.ne_none_iff_exists'.1 hs
                exact fun hB => (Rl.blocks hok).2.2 b hB hb)
              (fun k ok hk hok => by
                rcases hk with rfl | rfl
                · rw [hσid] at hok
                  injection hok with hok
                  subst hok
                  rw [hβid]
                  refine ⟨fun n' => ⟨v', setH_same _ _ _, ho'⟩, hnd', fun b hb => ⟨fun hB => ?_, (hnew b hb).1, ?_⟩⟩
                  · rcases (hnew b hb).2 with h | h
                    · exact absurd (Rl.low b hB) (by omega)
                    · exact bB b hB (hsubb _ (hbb _ h))
                  · rcases (hnew b hb).2 with h | h
                    · exact .inl h
                    · exact .inr ⟨idx, .inr rfl, by rw [hoS]; simp, hsubb _ (hbb _ h)⟩
                · rw [hσidx] at hok
                  injection hok with hok
                  subst hok
                  rw [hβidx]
                  refine ⟨fun n' => ⟨.slice (some ⟨g, o, none⟩) n c, by rw [setH_other _ _ hne]; exact hφ, ?_⟩, ?_, fun b hb => ?_⟩
                  · refine .inr ⟨g, o, c', cur, e'', bss.set j.toNat [], by rw [hx2, hx3], ?_, h8, h9, rfl, by simp [h11], fun k hk => ?_⟩
                    · rw [hf.block g (blow g (by rw [h10]; simp)) hgbb]
                      exact h7
                    · obtain ⟨u1, k13, k14, k15⟩ := h12 k hk
                      refine ⟨u1, k13, k14, ?_⟩
                      by_cases hkj : k = j.toNat
                      · refine .inl ⟨by subst hkj; congr 1; omega, ?_⟩
                        subst hkj
                        simp [h11, hk]
                      · rcases k15 with ⟨hno, _⟩ | ⟨b3, k16, k17⟩
                        · cases hno
                        · refine .inr ⟨b3, by rw [List.getElem?_set_ne (Ne.symm hkj)]; exact k16, ?_⟩
                          refine OwL.next k17 n'.fr n'.keep fun x hx => hf.block x (blow x (hsubb _ (List.mem_flatten.2 ⟨b3, List.mem_of_getElem? k16, hx⟩))) ?_
                          refine (hset x (List.mem_flatten.2 ⟨b3, ?_, hx⟩)).2
                          refine List.mem_of_getElem? (i := k) ?_
                          rw [List.getElem?_set_ne (Ne.symm hkj)]
                          exact k16
                  · exact List.nodup_cons.2 ⟨fun hm => hnd.1 (hset g hm).1, nodup_set hnd.2 (by simp) (by simp) _⟩
                  · have hb' : b ∈ β k := by
                      rcases List.mem_cons.1 hb with rfl | hb
                      · rw [h10]; simp
                      · exact hsubb _ (hset b hb).1
                    exact ⟨fun hB => bB b hB hb', Nat.lt_of_lt_of_le (blow b hb') hf.size, .inr ⟨k, .inr rfl, by rw [hoS]; simp, hb'⟩⟩)
              (fun k l hkl hk hl _ _ b hbk hbl => by
                rcases hk with rfl | rfl <;> rcases hl with rfl | rfl
                · exact hkl rfl
                · rw [hβid] at hbk
                  rw [hβidx] at hbl
                  exact hdis b hbk hbl
                · rw [hβid] at hbl
                  rw [hβidx] at hbk
                  exact hdis b hbl hbk
                · exact hkl rfl)
              (fun k hk hkn e1 t1 m1 xs1 hv1 hole1 hs => by
                rcases hk with rfl | rfl
                · exact absurd hidn hkn
                · rw [hσidx] at hs
                  injection hs with hs
                  cases hs
                  exact ⟨_, _, _, _, _, hoS, Nat.le_refl _, fun h => h⟩)
              (fun k e1 a1 b1 xs1 hv1 hole1 e2 xs2 hole2 g1 o1 n1 c1 hk hs1 hs2 hφ1 q v hq hc => by
                rcases hk with rfl | rfl
                · rw [hidn] at hφ1; cases hφ1
                · rw [hφ] at hφ1
                  injection hφ1 with hφ1
                  injection hφ1 with hφ1
                  injection hφ1 with hφ1
                  injection hφ1 with hφ1 hφ2
                  subst hφ1
                  subst hφ2
                  rw [World.cell?_of_block (hf.block g (blow g (by rw [h10]; simp)) hgbb)]
                  exact hc)
              (fun i hi => by rw [setH_other _ _ hi.2]; exact Rl.new i hi.1)
            exact ⟨_, _, _, _, _, _, _, h, hrun, ⟨setH_same _ _ _, hsl⟩, n', R'⟩
        · cases hdst
      · cases hdst
    · cases h
  · cases h
end
end Go.PV
