/- clear, on a part of an owned slice. -/
import Derived.Test.YtahehkidnfmfnaaGreatPvCopy
set_option linter.all false
namespace Go.PV
open Go

section
variable {P : Program} {Γ : Tab} {B : Nat → Prop} {new : Id → Prop} {s : St} {tmps : Array Value} {w : World} {φ : Hd} {β : Bl} {R : Type} {r : R}

theorem OwL.putN {t : Ty} {v : Value} {xs : List t.T} {bs : List Nat} (h : OwL P t w B v xs bs) {g o n c : Nat} (hv : v = .slice (some ⟨g, o, none⟩) n c) {l : Nat} {zs : List t.T} {news : List Value} (hl : l + zs.length ≤ xs.length)
    (hn : news.length = zs.length * t.n) (hr : ∀ (i : Nat) (h : i < zs.length), Rd P t w B ((news.drop (i * t.n)).take t.n) zs[i]) (hB : ∀ b, B b → b ≠ g) :
    ∃ cur e, w.heap[g]? = some (.cells cur e (0, 0)) ∧ bs = [g] ∧ o + l * t.n + news.length ≤ cur.size ∧
      OwL P t (w.setRow g (cur.toList.take (o + l * t.n) ++ news ++ cur.toList.drop (o + l * t.n + news.length)).toArray) B v (tPut xs (l : Int) zs) bs := by
  rcases h with ⟨rfl, _, _⟩ | ⟨g', o', c', cur, e, rfl, h2, h3, h4, h5, h6⟩
  · cases hv
  · injection hv with hv1 hv2 hv3
    injection hv1 with hv1
    injection hv1 with hv1 hv4
    subst hv1
    subst hv4
    have hmul : (l + zs.length) * t.n ≤ xs.length * t.n := Nat.mul_le_mul_right _ hl
    rw [Nat.add_mul] at hmul
    have hmul2 : xs.length * t.n ≤ c' * t.n := Nat.mul_le_mul_right _ h3
    have hle : o' + l * t.n + news.length ≤ cur.size := by omega
    have hfr : Fr w (w.setRow g' (cur.toList.take (o' + l * t.n) ++ news ++ cur.toList.drop (o' + l * t.n + news.length)).toArray) B := (Fr.setRow w g' _).mono hB
    have hlen := tPut_len hl
    refine ⟨cur, e, h2, h5, hle, .inr ⟨g', o', c', _, e, by rw [hlen], setRow_heap w g' cur _ e _ h2, by rw [hlen]; exact h3, ?_, h5, fun k hk => ?_⟩⟩
    · have : (cur.toList.take (o' + l * t.n) ++ news ++ cur.toList.drop (o' + l * t.n + news.length)).toArray.size = cur.size := by
        simp
        omega
      rw [this]
      exact h4
    · have hk' : k < xs.length := by rw [hlen] at hk; exact hk
      have hat := tPut_at hl k
      rw [List.getElem?_eq_getElem hk] at hat
      by_cases hin : l ≤ k ∧ k < l + zs.length
      · rw [if_neg (by omega), if_pos hin.2, List.getElem?_eq_getElem (by omega)] at hat
        injection hat with hat
        rw [hat]
        have hkz : k - l + 1 ≤ zs.length := by omega
        have hm1 : (k - l + 1) * t.n ≤ zs.length * t.n := Nat.mul_le_mul_right _ hkz
        rw [Nat.add_mul, Nat.one_mul] at hm1
        have hm2 : k * t.n = l * t.n + (k - l) * t.n := by rw [← Nat.add_mul]; congr 1; omega
        refine ⟨(news.drop ((k - l) * t.n)).take t.n, by simp; omega, fun j hj => ?_, (hr (k - l) (by omega)).fr hfr⟩
        have hjn : j < t.n := Nat.lt_of_lt_of_le hj (List.length_take_le ..)
        generalize hq : (k - l) * t.n = q at *
        rw [← List.getElem?_eq_getElem hj, seg_at hle, if_neg (by omega), if_pos (by omega), List.getElem?_take, if_pos hjn, List.getElem?_drop]
        congr 1
        omega
      · have hx : (tPut xs (l : Int) zs)[k] = xs[k] := by
          by_cases h1 : k < l
          · rw [if_pos h1, List.getElem?_eq_getElem hk'] at hat
            injection hat
          · rw [if_neg h1, if_neg (by omega), List.getElem?_eq_getElem hk'] at hat
            injection hat
        rw [hx]
        obtain ⟨us', h7, h8, h9⟩ := h6 k hk'
        refine ⟨us', h7, fun j hj => ?_, h9.fr hfr⟩
        have := h8 j hj
        have hjn : j < t.n := h7 ▸ hj
        rw [seg_at hle]
        by_cases h1 : k < l
        · have hm : (k + 1) * t.n ≤ l * t.n := Nat.mul_le_mul_right _ h1
          rw [Nat.add_mul, Nat.one_mul] at hm
          rw [if_pos (by omega)]; exact this
        · have hm : (l + zs.length) * t.n ≤ k * t.n := Nat.mul_le_mul_right _ (by omega)
          rw [Nat.add_mul] at hm
          rw [if_neg (by omega), if_neg (by omega)]; exact this

theorem zeroOk_of (w0 : World) (hΓ : TabOk P Γ) {s e : TypeId} {t : Ty} (h : isListOf Γ s e t = true) : P.underlying s = some (.slice e) ∧ ∃ z, (∀ w, (zeroValue e).run P w = .ok z w) ∧ zeroOk t z.cells.toList = true ∧ z.cells.size = t.n := by
  unfold isListOf at h
  split at h
  · rename_i e' t' fs el hs
    obtain ⟨h1, h2⟩ := both_true.1 h
    have h1 := beq_eq h1
    have h2 := tyb_eq h2
    subst h1
    subst h2
    obtain ⟨i, z, u, I⟩ := hΓ _ _ hs
    obtain ⟨hu, _, d', hd', ht⟩ := I.list _ _ rfl
    obtain ⟨i', z', u', I'⟩ := hΓ _ _ hd'
    have hz := (zero_cs (P := P) (w := w0) (B := fun _ => False) (φ := fun _ => none) (σ := fun _ => none) I'.zeroOk).2
    exact ⟨by rw [I.under, hu], z', fun w => by simp [zeroValue, run_info I'.info, I'.zero], by rw [← ht]; exact I'.zeroOk, by rw [← ht]; simpa using hz⟩
  · cases h

theorem run_clear_row (w : World) (s ty e : TypeId) (z : Value) (hu : P.underlying s = some (.slice e)) (hz : ∀ w, (zeroValue e).run P w = .ok z w) (h1 : ∀ v ∈ z.cells.toList, v.oneCell' = true) (g o n c : Nat) (cur : Array Value) (e' : TypeId)
    (hg : w.heap[g]? = some (.cells cur e' (0, 0))) (hl : o + n * z.cells.size ≤ cur.size) (hn : 0 < n) :
    (Builtin.clear_ #[s] ty #[.slice (some ⟨g, o, none⟩) n c]).run P w = .ok (.tuple #[]) (w.setRow g (cur.toList.take o ++ (madeCells z.cells (n * z.cells.size)).toList ++ cur.toList.drop (o + (madeCells z.cells (n * z.cells.size)).toList.length)).toArray) := by
  have hzc : Builtin.zeroCells z.cells n = madeCells z.cells (n * z.cells.size) := rfl
  have hst := run_storeCells_at (P := P) g o e' (madeCells z.cells (n * z.cells.size)).toList 0 cur w hg (by simpa [made_size] using hl) (fun v hv => by
    refine h1 v ?_
    have hv := Array.mem_toList_iff.1 hv
    obtain ⟨i, hi, rfl⟩ := Array.mem_iff_getElem.1 hv
    simp only [made_size] at hi
    have h0 : 0 < z.cells.size := by
      rcases Nat.eq_zero_or_pos z.cells.size with h | h
      · rw [h] at hi; omega
      · exact h
    have hm : i % z.cells.size < z.cells.size := Nat.mod_lt _ h0
    simp [madeCells, hm])
  simp only [Nat.add_zero] at hst
  obtain ⟨m, rfl⟩ : ∃ m, n = m + 1 := ⟨n - 1, by omega⟩
  rw [← hzc] at hst ⊢
  simp [Builtin.clear_, run_underlying hu, hz, hst]

theorem eff_clear (hΓ : TabOk P Γ) (Rl : Rel P B new s tmps w φ β) {σr : Sto} (hσ : ∀ id o, σr id = some o → s.sto id = some o) {s1 ty : TypeId} {x : V} {vx : Value} {K : Kont R}
    (hx : VR P s.sto φ w B x vx) (h : clearF Γ σr s1 x K = some r) : Eff P B new s tmps w φ β (Builtin.clear_ #[s1] ty #[vx]) K r := by
  unfold clearF at h
  split at h
  · rename_i id sz lo hi
    split at h
    · rename_i e t xs hv ho
      have ho := hσ _ _ ho
      obtain ⟨hb, h⟩ := cond_some h
      obtain ⟨hb1, hb2⟩ := both_true.1 hb
      have hfl : t.flat = true ∨ t.isList = true := by
        cases h : t.flat with
        | true => exact .inl rfl
        | false => rw [h] at hb2; exact .inr hb2
      obtain ⟨hu, z, hz, hzo, hzs⟩ := zeroOk_of w hΓ hb1
      obtain ⟨A, n, c, A', hφ, h0, h1, h2, hnc, h4, hsa, hvx⟩ := hx
      have hs := h4 _ _ _ _ _ _ ho
      subst hs
      obtain ⟨v, k2, k3, k4, k5⟩ := Rl.obj id _ ho
      rw [hφ] at k2
      injection k2 with k2
      subst k2
      have k3' : OwL P t w B _ xs (β id) := k3
      have hxn : n = xs.length := by
        rcases k3' with ⟨h, h', _⟩ | ⟨_, _, _, _, _, h, _⟩
        · injection h with _ h _; rw [h, h']; rfl
        · injection h
      have hvr : ∀ {σ φ w B}, VR P σ φ w B (.tup []) (.tuple #[]) := fun {σ φ w B} => ⟨[], rfl, rfl, fun i p u h _ => by simp at h⟩
      by_cases hq0 : (hi - lo).toNat = 0
      · have hrun : (Builtin.clear_ #[s1] ty #[vx]).run P w = .ok (.tuple #[]) w := by
          rw [hvx, hq0]
          cases A' <;> simp [Builtin.clear_, run_underlying hu]
        have hrep : tRep (hi - lo) t.dflt = [] := by simp [tRep, hq0]
        rw [hrep, tPut_nil] at h
        obtain ⟨n', R'⟩ := Rel.turn (gone := []) (σ' := s.sto.puts [(id, some (.sl e t .own xs hv none))]) (bs := β id) (w' := w) (K := fun _ => True) Rl ho (by simp) (put_same _ _ _) (by simp)
          (fun j hj _ => put_other _ _ hj) (Fr.refl _ _) (fun _ _ => trivial) (fun _ _ => trivial) (fun _ _ _ _ _ _ => trivial) k4
          (fun b hb => ⟨(k5 b hb).2, .inr ⟨id, .inl rfl, by rw [ho]; simp, hb⟩⟩)
          (fun n v hv => by
            rw [hφ] at hv
            injection hv with hv
            subst hv
            exact k3')
          (fun e1 t1 m1 xs1 hv1 hole1 h => by cases h; exact ⟨_, _, _, _, _, rfl, Nat.le_refl _, fun h => h⟩) (fun e1 a b xs1 hv1 hole1 e' xs' hole' g of n c h => by cases h)
        exact ⟨_, _, _, _, _, _, _, h, hrun, hvr, n', R'⟩
      · obtain ⟨l, rfl⟩ : ∃ l : Nat, lo = (l : Int) := ⟨lo.toNat, by omega⟩
        obtain ⟨q, hq⟩ : ∃ q : Nat, (hi - (l : Int)).toNat = q := ⟨_, rfl⟩
        have hne : c ≠ ((l : Nat) : Int).toNat := by simp only [Int.toNat_natCast]; omega
        obtain ⟨q2, _, hq2, rfl⟩ := hsa
        have := hq2 hne
        subst this
        have hA : ∃ g o, A = some ⟨g, o, none⟩ ∧ g ∈ β id := by
          rcases k3' with ⟨h, h', _⟩ | ⟨g, o, _, _, _, h, _, _, _, h', _⟩
          · injection h with _ h _; omega
          · injection h with h; exact ⟨g, o, h, by rw [h']; simp⟩
        obtain ⟨g, o, rfl, hg⟩ := hA
        have hnl : (madeCells z.cells (q * t.n)).toList.length = q * t.n := by simp [made_size]
        obtain ⟨cur, e', h6, h7, h8, h9⟩ := OwL.putN k3' rfl (l := l) (zs := tRep (hi - (l : Int)) t.dflt) (news := (madeCells z.cells (q * t.n)).toList) (by rw [tRep_len]; omega) (by rw [tRep_len, hnl, hq]) (fun j hj => by
          have hj' : j < q := by rw [tRep_len] at hj; omega
          have e1 : (tRep (hi - (l : Int)) t.dflt)[j] = t.dflt := by simp [tRep]
          rw [e1]
          have hm : (j + 1) * t.n ≤ q * t.n := Nat.mul_le_mul_right _ hj'
          rw [Nat.add_mul, Nat.one_mul] at hm
          have e2 : ((madeCells z.cells (q * t.n)).toList.drop (j * t.n)).take t.n = z.cells.toList := by
            refine List.ext_getElem? fun k => ?_
            by_cases hk : k < t.n
            · rw [List.getElem?_take, if_pos hk, List.getElem?_drop, Array.getElem?_toList, Array.getElem?_toList]
              have := made_cell z.cells (q * t.n) j k (by omega) (by omega) (by rw [hzs]; omega)
              rw [hzs] at this
              exact this
            · rw [List.getElem?_take, if_neg hk, List.getElem?_eq_none (by simp; omega)]
          rw [e2]
          exact zero_rd hfl hzo) (Rl.notB ho hg)
        have hrun := run_clear_row (P := P) w s1 ty e z hu hz (Rd.one (zero_rd (P := P) (w := w) (B := B) hfl hzo)) g (o + l * t.n) q (c - l) cur e' h6 (by rw [hzs]; rw [hnl] at h8; exact h8) (by omega)
        rw [hzs] at hrun
        obtain ⟨n', R'⟩ := Rel.turn (gone := []) (σ' := s.sto.puts [(id, some (.sl e t .own (tPut xs (l : Int) (tRep (hi - (l : Int)) t.dflt)) hv none))]) (bs := β id)
          (w' := w.setRow g (cur.toList.take (o + l * t.n) ++ (madeCells z.cells (q * t.n)).toList ++ cur.toList.drop (o + l * t.n + (madeCells z.cells (q * t.n)).toList.length)).toArray) (K := fun b => b ≠ g) Rl ho (by simp) (put_same _ _ _) (by simp)
          (fun j hj _ => put_other _ _ hj) (Fr.setRow w g _) (ku ho hg) (Rl.notB ho hg) (fun j hj _ hs b hb' e => Rl.sep id j (Ne.symm hj) (by rw [ho]; simp) hs g hg (e ▸ hb')) k4
          (fun b hb => ⟨by simpa using (k5 b hb).2, .inr ⟨id, .inl rfl, by rw [ho]; simp, hb⟩⟩)
          (fun n v hv => by
            rw [hφ] at hv
            injection hv with hv
            subst hv
            exact h9)
          (fun e1 t1 m1 xs1 hv1 hole1 h => by cases h; exact ⟨_, _, _, _, _, rfl, Nat.le_refl _, fun h => h⟩) (fun e1 a b xs1 hv1 hole1 e' xs' hole' g of n c h => by cases h)
        refine ⟨_, _, _, _, _, _, _, h, ?_, hvr, n', R'⟩
        rw [hvx, hq]
        simp only [Option.map_some, add_flat, Int.toNat_natCast]
        exact hrun
    · cases h
  · cases h
end
end Go.PV
