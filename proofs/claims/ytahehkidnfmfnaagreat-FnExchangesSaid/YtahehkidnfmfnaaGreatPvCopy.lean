/- copy. -/
import Derived.Test.YtahehkidnfmfnaaGreatPvApp
set_option linter.all false
namespace Go.PV
open Go

section
variable {P : Program} {Γ : Tab} {B : Nat → Prop} {new : Id → Prop} {s : St} {tmps : Array Value} {w : World} {φ : Hd} {β : Bl} {R : Type} {r : R}

theorem tPut_len {α : Type} {xs ys : List α} {l : Nat} (h : l + ys.length ≤ xs.length) : (tPut xs (l : Int) ys).length = xs.length := by
  simp only [tPut, Int.toNat_natCast, List.length_append, List.length_take, List.length_drop]
  omega
theorem tPut_at {α : Type} {xs ys : List α} {l : Nat} (h : l + ys.length ≤ xs.length) (k : Nat) : (tPut xs (l : Int) ys)[k]? = if k < l then xs[k]? else if k < l + ys.length then ys[k - l]? else xs[k]? := by
  have hl : (xs.take l).length = l := by simp; omega
  simp only [tPut, Int.toNat_natCast]
  by_cases h1 : k < l
  · rw [if_pos h1, List.append_assoc, List.getElem?_append_left (by omega), List.getElem?_take, if_pos h1]
  · rw [if_neg h1, List.append_assoc, List.getElem?_append_right (by omega), hl]
    by_cases h2 : k < l + ys.length
    · rw [if_pos h2, List.getElem?_append_left (by omega)]
    · rw [if_neg h2, List.getElem?_append_right (by omega), List.getElem?_drop]
      have : l + ys.length + (k - l - ys.length) = k := by omega
      rw [this]
theorem tPut_nil {α : Type} (xs : List α) (l : Int) : tPut xs l [] = xs := by
  simp [tPut]

theorem OwL.put {t : Ty} {v : Value} {xs : List t.T} {bs : List Nat} (h : OwL P t w B v xs bs) {g o n c : Nat} (hv : v = .slice (some ⟨g, o, none⟩) n c) (ht : t.n = 1) {l : Nat} {zs : List t.T} {news : List Value} (hl : l + zs.length ≤ xs.length)
    (hn : news.length = zs.length) (hr : ∀ (i : Nat) (h : i < zs.length), Rd P t w B ((news.drop i).take 1) zs[i]) (hB : ∀ b, B b → b ≠ g) :
    ∃ cur e, w.heap[g]? = some (.cells cur e (0, 0)) ∧ bs = [g] ∧ o + l + news.length ≤ cur.size ∧
      OwL P t (w.setRow g (cur.toList.take (o + l) ++ news ++ cur.toList.drop (o + l + news.length)).toArray) B v (tPut xs (l : Int) zs) bs := by
  rcases h with ⟨rfl, _, _⟩ | ⟨g', o', c', cur, e, rfl, h2, h3, h4, h5, h6⟩
  · cases hv
  · injection hv with hv1 hv2 hv3
    injection hv1 with hv1
    injection hv1 with hv1 hv4
    subst hv1
    subst hv4
    rw [ht, Nat.mul_one] at h4
    have hle : o' + l + news.length ≤ cur.size := by omega
    have hfr : Fr w (w.setRow g' (cur.toList.take (o' + l) ++ news ++ cur.toList.drop (o' + l + news.length)).toArray) B := (Fr.setRow w g' _).mono hB
    have hlen := tPut_len hl
    refine ⟨cur, e, h2, h5, hle, .inr ⟨g', o', c', _, e, by rw [hlen], setRow_heap w g' cur _ e _ h2, by rw [hlen]; exact h3, ?_, h5, fun k hk => ?_⟩⟩
    · have : (cur.toList.take (o' + l) ++ news ++ cur.toList.drop (o' + l + news.length)).toArray.size = cur.size := by
        simp
        omega
      rw [this, ht, Nat.mul_one]
      exact h4
    · have hk' : k < xs.length := by rw [hlen] at hk; exact hk
      have hat := tPut_at hl k
      rw [List.getElem?_eq_getElem hk] at hat
      by_cases hin : l ≤ k ∧ k < l + zs.length
      · rw [if_neg (by omega), if_pos hin.2, List.getElem?_eq_getElem (by omega)] at hat
        injection hat with hat
        rw [hat]
        have hkn : k - l < news.length := by omega
        refine ⟨(news.drop (k - l)).take 1, by simp; omega, fun j hj => ?_, (hr (k - l) (by omega)).fr hfr⟩
        have hj0 : j = 0 := by simp at hj; omega
        subst hj0
        rw [ht, Nat.mul_one, Nat.add_zero, seg_at hle, if_neg (by omega), if_pos (by omega), show o' + k - (o' + l) = k - l by omega, List.getElem?_eq_getElem hkn]
        simp
      · have hx : (tPut xs (l : Int) zs)[k] = xs[k] := by
          by_cases h1 : k < l
          · rw [if_pos h1, List.getElem?_eq_getElem hk'] at hat
            injection hat
          · rw [if_neg h1, if_neg (by omega), List.getElem?_eq_getElem hk'] at hat
            injection hat
        rw [hx]
        obtain ⟨us', h7, h8, h9⟩ := h6 k hk'
        refine ⟨us', h7, fun j hj => ?_, h9.fr hfr⟩
        have hj0 : j = 0 := by omega
        subst hj0
        have := h8 0 hj
        rw [ht, Nat.mul_one, Nat.add_zero] at this ⊢
        rw [seg_at hle]
        by_cases h1 : k < l
        · rw [if_pos (by omega)]; exact this
        · rw [if_neg (by omega), if_neg (by omega)]; exact this

theorem tMin_le {a b : Int} : tMin a b ≤ a ∧ tMin a b ≤ b ∧ (tMin a b = a ∨ tMin a b = b) := by
  unfold tMin ile
  by_cases h : a ≤ b
  · rw [decide_eq_true h]
    exact ⟨Int.le_refl _, h, .inl rfl⟩
  · rw [decide_eq_false h]
    exact ⟨by simp only [cond_false]; omega, Int.le_refl _, .inr rfl⟩

theorem run_copy_zero {t t' ty e : TypeId} {i : TypeInfo} (ht : P.underlying t = some (.slice e)) (hi : P.info? e = some i) {A A' : Option Addr} {n c n' c' : Nat} (h0 : Nat.min n' n = 0) :
    (Builtin.copy_ #[t, t'] ty #[.slice A n c, .slice A' n' c']).run P w = .ok (goInt 0) w := by
  have h1 : (Builtin.firstCells i.size 0 (.slice A' n' c')).run P w = .ok #[] w := by
    cases A' with
    | none => exact run_firstCells_none (P := P) w _ 0 _ _
    | some a => exact run_firstCells_some (P := P) w i.size 0 a n' c' [] (by simp) (by simp)
  cases A with
  | none => simp [Builtin.copy_, run_underlying ht, Builtin.lenOf, sizeOf, typeInfo, hi, h0, h1]
  | some a => simp [Builtin.copy_, run_underlying ht, Builtin.lenOf, sizeOf, typeInfo, hi, h0, h1, storeCells]

theorem eff_copyTo (hΓ : TabOk P Γ) (Rl : Rel P B new s tmps w φ β) {σr : Sto} (hσ : ∀ id o, σr id = some o → s.sto id = some o) {s1 s2 ty : TypeId} {y : V} {vx vy : Value} {K : Kont R}
    {id : Id} {e : TypeId} {t : Ty} {xs : List t.T} {hv : Nat} (ho : s.sto id = some (.sl e t .own xs hv none)) {A : Option Addr} {n c : Nat} (hφ : φ id = some (.slice A n c)) {lo hi : Int} (h0 : 0 ≤ lo) (h1 : lo ≤ hi) (h2 : hi ≤ n)
    {A2 : Option Addr} (hsa : SubA A A2 c lo.toNat t.n) (hvx : vx = .slice A2 (hi - lo).toNat (c - lo.toNat)) (hnc : n ≤ c)
    (hy : VR P s.sto φ w B y vy) (h : copyTo Γ σr s1 s2 id e t xs hv lo (hi - lo) y K = some r) :
    Eff P B new s tmps w φ β (Builtin.copy_ #[s1, s2] ty #[vx, vy]) K r := by
  unfold copyTo at h
  obtain ⟨hb, h⟩ := cond_some h
  obtain ⟨hb, hft⟩ := both_true.1 hb
  obtain ⟨hb1, hb2⟩ := both_true.1 hb
  obtain ⟨hf, ht1⟩ := both_true.1 hft
  have ht1 : t.n = 1 := beq_eq ht1
  obtain ⟨ys, hys, h⟩ := ob_some h
  obtain ⟨hu1, i, z, hi', hz, hby, hsz, hzs⟩ := isListOf_und w hΓ hb1
  obtain ⟨us, rfl, hr⟩ := asT_rel (Rl.obs hσ) hσ hy hys
  have hul := hr.len
  obtain ⟨u, rfl⟩ := List.length_eq_one_iff.1 hul
  have hmk : (Ty.list e t).mk [u] = u := rfl
  rw [hmk] at *
  obtain ⟨news, hrd, hone, hel⟩ := Rd.reads hr
  obtain ⟨A', c', rfl, hnl, hcells⟩ := hrd
  rw [ht1, Nat.mul_one] at hnl
  obtain ⟨v, k2, k3, k4, k5⟩ := Rl.obj id _ ho
  rw [hφ] at k2
  injection k2 with k2
  subst k2
  have k3' : OwL P t w B _ xs (β id) := k3
  have hxn : n = xs.length := by
    rcases k3' with ⟨h, h', _⟩ | ⟨_, _, _, _, _, h, _⟩
    · injection h with _ h _; rw [h, h']; rfl
    · injection h
  obtain ⟨m1, m2, m3⟩ := @tMin_le (hi - lo) (tLen (α := t.T) ys)
  have hlen : tLen (α := t.T) ys = ((ys : List t.T).length : Int) := rfl
  rw [hlen] at m1 m2 m3 h
  obtain ⟨q, hq⟩ : ∃ q : Nat, tMin (hi - lo) ((ys : List t.T).length : Int) = q := ⟨(tMin (hi - lo) ((ys : List t.T).length : Int)).toNat, by omega⟩
  rw [hq] at m1 m2 m3 h
  have hmin : Nat.min (ys : List t.T).length (hi - lo).toNat = q := by simp only [Nat.min_def]; split <;> omega
  have hvr : ∀ {σ φ w B}, VR P σ φ w B (roV (.int .i64) (q : Int)) (goInt q) := fun {σ φ w B} => cr_int _ _
  by_cases hq0 : q = 0
  · subst hq0
    have hrun := run_copy_zero (P := P) (w := w) (t := s1) (t' := s2) (ty := ty) hu1 hi' (A := A2) (A' := A') (n := (hi - lo).toNat) (c := c - lo.toNat) (n' := (ys : List t.T).length) (c' := c') hmin
    have hcut : tCut (α := t.T) ys 0 ((0 : Nat) : Int) = [] := by simp [tCut]
    rw [hcut, tPut_nil] at h
    obtain ⟨n', R'⟩ := Rel.turn (gone := []) (σ' := s.sto.puts [(id, some (.sl e t .own xs hv none))]) (bs := β id) (w' := w) (K := fun _ => True) Rl ho (by simp) (put_same _ _ _) (by simp)
      (fun j hj _ => put_other _ _ hj) (Fr.refl _ _) (fun _ _ => trivial) (fun _ _ => trivial) (fun _ _ _ _ _ _ => trivial) k4
      (fun b hb => ⟨(k5 b hb).2, .inr ⟨id, .inl rfl, by rw [ho]; simp, hb⟩⟩)
      (fun n v hv => by
        rw [hφ] at hv
        injection hv with hv
        subst hv
        exact k3')
      (fun e1 t1 m1 xs1 hv1 hole1 h => by cases h; exact ⟨_, _, _, _, _, rfl, Nat.le_refl _, fun h => h⟩) (fun e1 a b xs1 hv1 hole1 e' xs' hole' g of n c h => by cases h)
    refine ⟨_, _, _, _, _, _, _, h, ?_, hvr, n', R'⟩
    rw [hvx]
    exact hrun
  · obtain ⟨l, rfl⟩ : ∃ l : Nat, lo = (l : Int) := ⟨lo.toNat, by omega⟩
    have hne : c ≠ ((l : Nat) : Int).toNat := by simp only [Int.toNat_natCast]; omega
    obtain ⟨q2, _, hq2, rfl⟩ := hsa
    have := hq2 hne
    subst this
    have hA : ∃ g o, A = some ⟨g, o, none⟩ ∧ g ∈ β id := by
      rcases k3' with ⟨h, h', _⟩ | ⟨g, o, _, _, _, h, _, _, _, h', _⟩
      · injection h with _ h _; omega
      · injection h with h; exact ⟨g, o, h, by rw [h']; simp⟩
    obtain ⟨g, o, rfl, hg⟩ := hA
    obtain ⟨g2, o2, rfl, hc2⟩ := hcells (by omega)
    have hcutl : (tCut (α := t.T) ys 0 (q : Int)).length = q := by simp [tCut]; omega
    obtain ⟨cur, e', h6, h7, h8, h9⟩ := OwL.put k3' rfl ht1 (l := l) (zs := tCut (α := t.T) ys 0 (q : Int)) (news := news.take q) (by omega) (by simp; omega) (fun j hj => by
      have hj' : j < q := by omega
      have e1 : (tCut (α := t.T) ys 0 (q : Int))[j] = (ys : List t.T)[j]'(by omega) := by simp [tCut]
      rw [e1]
      have := (hel j (by omega)).flat (w' := w) (B' := B) hf
      rw [ht1, Nat.mul_one] at this
      have e2 : ((news.take q).drop j).take 1 = (news.drop j).take 1 := by
        rw [List.drop_take, List.take_take]
        congr 1
        omega
      rw [e2]
      exact this) (Rl.notB ho hg)
    have hnq : (news.take q).length = q := by simp; omega
    have hrun := run_copy_row (P := P) w s1 s2 ty e g (o + l) (hi - l).toNat (c - l) ⟨g2, o2, none⟩ (ys : List t.T).length c' cur e' (news.take q) hu1 (by rw [hi']; simp [hsz, ht1]) h6 (by rw [hnq, hmin]) (fun j v hj => by
      rw [List.getElem?_take] at hj
      split at hj
      · rw [add_flat]
        obtain ⟨hlt, rfl⟩ := List.getElem?_eq_some_iff.1 hj
        exact hc2 j hlt
      · cases hj) h8 (fun v hv => hone v (List.mem_of_mem_take hv))
    obtain ⟨n', R'⟩ := Rel.turn (gone := []) (σ' := s.sto.puts [(id, some (.sl e t .own (tPut xs (l : Int) (tCut (α := t.T) ys 0 (q : Int))) hv none))]) (bs := β id)
      (w' := w.setRow g (cur.toList.take (o + l) ++ news.take q ++ cur.toList.drop (o + l + (news.take q).length)).toArray) (K := fun b => b ≠ g) Rl ho (by simp) (put_same _ _ _) (by simp)
      (fun j hj _ => put_other _ _ hj) (Fr.setRow w g _) (ku ho hg) (Rl.notB ho hg) (fun j hj _ hs b hb' e => Rl.sep id j (Ne.symm hj) (by rw [ho]; simp) hs g hg (e ▸ hb')) k4
      (fun b hb => ⟨by simpa using (k5 b hb).2, .inr ⟨id, .inl rfl, by rw [ho]; simp, hb⟩⟩)
      (fun n v hv => by
        rw [hφ] at hv
        injection hv with hv
        subst hv
        exact h9)
      (fun e1 t1 m1 xs1 hv1 hole1 h => by cases h; exact ⟨_, _, _, _, _, rfl, Nat.le_refl _, fun h => h⟩) (fun e1 a b xs1 hv1 hole1 e' xs' hole' g of n c h => by cases h)
    refine ⟨_, _, _, _, _, _, _, h, ?_, hvr, n', R'⟩
    rw [hvx]
    simp only [Option.map_some, add_flat, Int.toNat_natCast, ht1, Nat.mul_one]
    rw [hrun, hnq]

theorem eff_copy (hΓ : TabOk P Γ) (Rl : Rel P B new s tmps w φ β) {σr : Sto} (hσ : ∀ id o, σr id = some o → s.sto id = some o) {s1 s2 ty : TypeId} {x y : V} {vx vy : Value} {K : Kont R}
    (hx : VR P s.sto φ w B x vx) (hy : VR P s.sto φ w B y vy) (h : copyF Γ σr s1 s2 x y K = some r) :
    Eff P B new s tmps w φ β (Builtin.copy_ #[s1, s2] ty #[vx, vy]) K r := by
  unfold copyF at h
  split at h
  · rename_i id
    split at h
    · rename_i e t xs hv ho
      have ho := hσ _ _ ho
      obtain ⟨hφ, A, n, c, rfl⟩ := hx
      obtain ⟨v, k2, k3, _⟩ := Rl.obj id _ ho
      rw [hφ] at k2
      injection k2 with k2
      subst k2
      have k3' : OwL P t w B _ xs (β id) := k3
      have hxn : n = xs.length ∧ n ≤ c := by
        rcases k3' with ⟨h, h', _⟩ | ⟨_, _, _, _, _, h, _, h2, _⟩
        · injection h with _ h h2; rw [h, h', h2]; exact ⟨rfl, Nat.le_refl _⟩
        · injection h with _ h h3; exact ⟨h, by omega⟩
      refine eff_copyTo hΓ Rl hσ ho hφ (lo := 0) (hi := (n : Int)) (by omega) (by omega) (by omega) (A2 := A) ⟨0, by simp, by simp, (add_zero_map A).symm⟩ (by simp) hxn.2 hy ?_
      · rw [Int.sub_zero, hxn.1]
        exact h
    · cases h
  · rename_i id sz lo hi
    split at h
    · rename_i e t xs hv ho
      have ho := hσ _ _ ho
      obtain ⟨A, n, c, A', hφ, h0, h1, h2, h3, h4, h6, h5⟩ := hx
      have hs := h4 _ _ _ _ _ _ ho
      subst hs
      exact eff_copyTo hΓ Rl hσ ho hφ h0 h1 h2 h6 h5 h3 hy h
    · cases h
  · cases h
end
end Go.PV
