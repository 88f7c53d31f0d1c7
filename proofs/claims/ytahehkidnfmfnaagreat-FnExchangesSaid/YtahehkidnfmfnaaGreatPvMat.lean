/- Great arrays of numbers: made, filled, read, written. -/
import Derived.Test.YtahehkidnfmfnaaGreatPvMap
set_option linter.all false
namespace Go.PV
open Go

section
variable {P : Program} {Γ : Tab} {B : Nat → Prop} {new : Id → Prop} {s : St} {tmps : Array Value} {w : World} {φ : Hd} {β : Bl} {R : Type} {r : R}

theorem zero_ints : ∀ {t : Ty} {vs : List Value}, allI t = true → zeroOk t vs = true → vs = List.replicate t.n (.int .i64 0) := by
  intro t
  induction t with
  | int k =>
    intro vs h hz
    have := kb_eq (show kb k .i64 = true from h)
    subst this
    simp only [zeroOk, zeroInt] at hz
    split at hz
    · have := kb_eq hz
      subst this
      rfl
    · cases hz
  | pair a b iha ihb =>
    intro vs h hz
    obtain ⟨h1, h2⟩ := both_true.1 (show both (allI a) (allI b) = true from h)
    obtain ⟨h3, h4⟩ := both_true.1 (show both (zeroOk a (vs.take a.n)) (zeroOk b (vs.drop a.n)) = true from hz)
    have e1 := iha h1 h3
    have e2 := ihb h2 h4
    have := List.take_append_drop a.n vs
    rw [e1, e2, List.replicate_append_replicate] at this
    exact this.symm
  | _ => intro vs h; cases h

theorem eff_allocM (hΓ : TabOk P Γ) {id : Id} (Rl : Rel P B new s tmps w φ β) (hid : new id) {τ : TypeId} {K : Kont R} (h : allocM Γ (some id) τ K = some r) :
    Eff P B (fun i => new i ∧ i ≠ id) s tmps w φ β (Instr.alloc τ true (.tuple #[])) K r := by
  unfold allocM at h
  split at h
  · rename_i d hd
    cases hb : both (Nat.ble 16 d.ty.n) (allI d.ty) with
    | false =>
      rw [hb] at h
      exact eff_alloc hΓ Rl hid (by rw [hd]; exact h)
    | true =>
      rw [hb] at h
      obtain ⟨_, hI⟩ := both_true.1 hb
      obtain ⟨i, z, u, I⟩ := hΓ _ _ hd
      have hz := zero_ints hI I.zeroOk
      obtain ⟨n, R'⟩ := Rel.fresh (o := .mat (tRep (d.ty.n : Int) (0 : Int))) (hdr := .pointer (some ⟨w.heap.size, 0, none⟩)) (ob := .cells z.cells τ) Rl hid (w0 := w) ⟨rfl, rfl, rfl, rfl, Nat.le_refl _⟩
        (fun n => ⟨w.heap.size, z.cells, τ, rfl, heap_new w _, rfl, by rw [hz]; simp [tRep]⟩)
      exact ⟨_, _, _, _, _, _, _, h, by simp [Instr.alloc, zeroValue, run_info I.info, I.zero, newVar, newRow], ⟨w.heap.size, setH_same _ _ _, rfl⟩, n, R'⟩
  · cases h

theorem allocM_none {τ : TypeId} {K : Kont R} : allocM Γ none τ K = none := by
  unfold allocM
  split
  · rename_i d hd
    cases both (Nat.ble 16 d.ty.n) (allI d.ty) <;> rfl
  · rfl
theorem ile_ilt {n : Int} {l : Nat} (h : (ile 0 n && ilt n (l : Int)) = true) : 0 ≤ n ∧ n < (l : Int) := by
  simpa [ile, ilt] using h

theorem sim_mataddr (hΓ : TabOk P Γ) {t : TypeId} {id : Id} {j : Int} {i : V} {vx vi : Value} {K : Kont R} {g : Nat} (hφ : φ id = some (.pointer (some ⟨g, 0, none⟩))) (hj : 0 ≤ j) (hx : vx = .pointer (some ⟨g, j.toNat, none⟩)) (hi : VR P s.sto φ w B i vi)
    (h : matAddr Γ t id j i K = some r) : Gives P s.sto φ w B (Instr.indexAt t vx vi) K r := by
  unfold matAddr at h
  split at h
  · rename_i ty fs e u len k n hs
    have := vr_int hi; subst this
    subst hx
    obtain ⟨hta, hK0⟩ := cond_some h
    obtain ⟨hc, hK⟩ := chk_some hK0
    obtain ⟨i', z, ud, I⟩ := hΓ _ _ hs
    obtain ⟨rfl, ⟨d', h3, h4⟩, h5⟩ := I.array hta e u len rfl
    subst h4
    obtain ⟨ie, ze, ude, Ie⟩ := hΓ _ _ h3
    obtain ⟨h7, h8⟩ := ile_ilt hc
    have hm : 0 ≤ n * (d'.ty.n : Int) := Int.mul_nonneg h7 (Int.natCast_nonneg _)
    have e1 : (j + n * (d'.ty.n : Int)).toNat = j.toNat + n.toNat * d'.ty.n := by
      have key : ∀ (a b : Int) (c : Nat), 0 ≤ a → 0 ≤ b → (b + a * (c : Int)).toNat = b.toNat + a.toNat * c := fun a b c ha hb => by
        obtain ⟨a, rfl⟩ := Int.eq_ofNat_of_zero_le ha
        obtain ⟨b, rfl⟩ := Int.eq_ofNat_of_zero_le hb
        rw [← Int.natCast_mul, ← Int.natCast_add, Int.toNat_natCast, Int.toNat_natCast, Int.toNat_natCast]
      exact key n j _ h7 hj
    refine ⟨_, .pointer (some ⟨g, j.toNat + n.toNat * d'.ty.n, none⟩), hK, ⟨g, hφ, Int.add_nonneg hj hm, by rw [e1]⟩, ?_⟩
    simp [Instr.indexAt, asIntOf, run_und I.under, Instr.sureAddr, h7, h8, run_size Ie.info, Ie.size, add_flat]
  · cases h

theorem mat_cell {v : Value} {bs : List Nat} {xs : List Int} (h : MatR w v bs xs) {g : Nat} (hv : v = .pointer (some ⟨g, 0, none⟩)) : ∃ cur e, w.heap[g]? = some (.cells cur e (0, 0)) ∧ bs = [g] ∧ cur.toList = xs.map (Value.int .i64) := by
  obtain ⟨g', cur, e, h1, h2, h3, h4⟩ := h
  rw [h1] at hv
  injection hv with hv
  injection hv with hv
  injection hv with hv
  subst hv
  exact ⟨cur, e, h2, h3, h4⟩

theorem sim_matload (hΓ : TabOk P Γ) {σr : Sto} (O : Obs P s.sto σr φ β w B) {t : TypeId} {id : Id} {i : Int} {vx : Value} {K : Kont R} (hx : CR P s.sto φ w B (.mad id i) vx) (h : matLoad Γ σr t id i K = some r) :
    Gives P s.sto φ w B (Instr.loadAt t vx) K r := by
  unfold matLoad at h
  split at h
  · rename_i fs el xs hs ho
    obtain ⟨hc, hK⟩ := chk_some h
    obtain ⟨h6, h7⟩ := inb_lt hc
    obtain ⟨v, hv, hm⟩ := O id _ ho
    obtain ⟨g, hp, h0, rfl⟩ := hx
    rw [hv] at hp
    injection hp with hp
    obtain ⟨cur, e, h2, h3, h4⟩ := mat_cell hm hp
    obtain ⟨hlt, hrd⟩ := rd_at (t := .int .i64) h6 h7
    have hcl : cur[i.toNat]? = some (.int .i64 xs[i.toNat]) := by
      have : cur.toList[i.toNat]? = some (.int .i64 xs[i.toNat]) := by rw [h4]; simp [hlt]
      simpa using this
    have := run_loadVar (P := P) (w := w) (g := g) (o := i.toNat) (us := [.int .i64 xs[i.toNat]]) hΓ hs rfl (fun k hk => by
      have : k = 0 := by simp at hk; omega
      subst this
      simp [World.cell?, h2, hcl])
    refine ⟨_, _, hK, cr_int _ _, ?_⟩
    rw [hrd]
    exact this
  · cases h

theorem ints_cells {σ : Sto} : ∀ {us : List C} {ys : List Int} {vs : List Value}, intsOf us = some ys → CsR P σ φ w B us vs → vs = ys.map (Value.int .i64) := by
  intro us
  induction us with
  | nil =>
    intro ys vs h hc
    injection h with h
    subst h
    exact List.eq_nil_of_length_eq_zero (by simpa using hc.1)
  | cons c us ih =>
    intro ys vs h hc
    unfold intsOf at h
    split at h
    · cases ‹(_ :: _) = []›
    · rename_i x r e
      injection e with e1 e2
      subst e1 e2
      obtain ⟨zs, h1, h2⟩ := ob_some h
      injection h2 with h2
      subst h2
      cases vs with
      | nil => have := hc.1; simp at this
      | cons v vs =>
        have hv := hc.2.2 0 _ v rfl rfl
        have hd : CsR P σ φ w B us vs := by simpa using hc.drop 1
        rw [ih h1 hd]
        obtain ⟨q, e, hr⟩ := hv
        have hr : q = [.int .i64 x] := hr
        rw [e, hr]
        rfl
    · cases h

theorem eff_matput (hΓ : TabOk P Γ) (Rl : Rel P B new s tmps w φ β) {σr : Sto} (hσ : ∀ id o, σr id = some o → s.sto id = some o) {τ : TypeId} {id : Id} {i : Int} {v : V} {vx vv : Value} {K : Kont R}
    (hx : CR P s.sto φ w B (.mad id i) vx) (hv : VR P s.sto φ w B v vv) (h : matPut Γ σr τ id i v K = some r) : EffU P B new s tmps w φ β (Instr.storeAt τ vx vv) K r := by
  unfold matPut at h
  split at h
  · rename_i fs el xs hs ho
    obtain ⟨y, hy, hK0⟩ := ob_some h
    obtain ⟨hc, hK⟩ := chk_some hK0
    obtain ⟨h6, h7⟩ := inb_lt hc
    have ho := hσ _ _ ho
    obtain ⟨ti, z, u, I⟩ := hΓ _ _ hs
    obtain ⟨v0, hv0, hm, h8, h9⟩ := Rl.obj id _ ho
    obtain ⟨g, hp, h0, rfl⟩ := hx
    rw [hv0] at hp
    injection hp with hp
    subst hp
    obtain ⟨cur, e, h2, h3, h4⟩ := mat_cell hm rfl
    have hvi : vv.cells.toList = [.int .i64 y] := flat_cells (t := .int .i64) Rl hσ rfl hv hy
    have hsz : vv.cells.size = 1 := by have := congrArg List.length hvi; simpa using this
    have hcs : cur.size = xs.length := by have := congrArg List.length h4; simpa using this
    have hlt : i.toNat < xs.length := by omega
    have hgm : g ∈ β id := by rw [h3]; simp
    have hrun := run_storeAt I.info h2 (o := i.toNat) (v := vv) (by rw [hsz, I.size]; rfl) (by omega) (by rw [hvi]; intro q hq; rw [List.mem_singleton.1 hq]; rfl)
    obtain ⟨n', R'⟩ := Rel.turn (gone := []) (σ' := s.sto.puts [(id, some (.mat (tSet xs i y)))]) (bs := β id)
      (w' := w.setRow g (cur.toList.take i.toNat ++ vv.cells.toList ++ cur.toList.drop (i.toNat + vv.cells.size)).toArray) (K := fun b => b ≠ g) Rl ho (by simp) (put_same _ _ _) (by simp)
      (fun j hj _ => put_other _ _ hj) (Fr.setRow w g _) (ku ho hgm) (Rl.notB ho hgm) (fun j hj _ hs b hb e => Rl.sep id j (Ne.symm hj) (by rw [ho]; simp) hs g hgm (e ▸ hb)) h8
      (fun b hb => ⟨by simpa using (h9 b hb).2, .inr ⟨id, .inl rfl, by rw [ho]; simp, hb⟩⟩)
      (fun n v hv => by
        rw [hv0] at hv
        injection hv with hv
        subst hv
        refine ⟨g, _, e, rfl, setRow_heap w g cur _ e _ h2, h3, ?_⟩
        rw [hvi, hsz, h4]
        show List.take i.toNat (List.map (Value.int .i64) xs) ++ [Value.int .i64 y] ++ List.drop (i.toNat + 1) (List.map (Value.int .i64) xs) = List.map (Value.int .i64) (xs.set i.toNat y)
        rw [List.map_set, List.set_eq_take_append_cons_drop, if_pos (by simpa using hlt)]
        simp)
      (fun e t m xs hv hole h => by cases h) (fun e a b xs hv hole e' xs' hole' g of n c h => by cases h)
    exact ⟨_, _, _, hK, hrun, n', R'⟩
  · cases h

theorem eff_matfill (hΓ : TabOk P Γ) (Rl : Rel P B new s tmps w φ β) {τ : TypeId} {id : Id} {off : Nat} {xs : List Int} {v : V} {vx vv : Value} {K : Kont R} (ho : s.sto id = some (.mat xs))
    (hx : CR P s.sto φ w B (.adr id off) vx) (hv : VR P s.sto φ w B v vv) (h : matFill Γ τ id off xs v K = some r) : EffU P B new s tmps w φ β (Instr.storeAt τ vx vv) K r := by
  unfold matFill at h
  split at h
  · rename_i d us hs hus
    obtain ⟨hb, hK0⟩ := cond_some h
    obtain ⟨hb1, hb2⟩ := both_true.1 hb
    have hb1 := beq_eq hb1
    subst hb1
    obtain ⟨ys, hy, hK1⟩ := ob_some hK0
    obtain ⟨hc, hK⟩ := chk_some hK1
    have hlen : xs.length = us.length := by
      have q : (xs.length : Int) = (us.length : Int) := by simpa [ieq, tLen] using hc
      omega
    obtain ⟨ti, z, u, I⟩ := hΓ _ _ hs
    obtain ⟨v0, hv0, hm, h8, h9⟩ := Rl.obj id _ ho
    obtain ⟨g, hp, rfl⟩ := hx
    rw [hv0] at hp
    injection hp with hp
    subst hp
    obtain ⟨cur, e, h2, h3, h4⟩ := mat_cell hm rfl
    have hcr := cells_rel hv hus
    have hvi := ints_cells hy hcr
    have hsz : vv.cells.size = us.length := by simpa using hcr.1
    have hcs : cur.size = xs.length := by have := congrArg List.length h4; simpa using this
    have hgm : g ∈ β id := by rw [h3]; simp
    have hrun := run_storeAt I.info h2 (o := 0) (v := vv) (by rw [hsz, I.size]; exact beq_eq hb2) (by omega) hcr.2.1
    obtain ⟨n', R'⟩ := Rel.turn (gone := []) (σ' := s.sto.puts [(id, some (.mat ys))]) (bs := β id)
      (w' := w.setRow g (cur.toList.take 0 ++ vv.cells.toList ++ cur.toList.drop (0 + vv.cells.size)).toArray) (K := fun b => b ≠ g) Rl ho (by simp) (put_same _ _ _) (by simp)
      (fun j hj _ => put_other _ _ hj) (Fr.setRow w g _) (ku ho hgm) (Rl.notB ho hgm) (fun j hj _ hs b hb e => Rl.sep id j (Ne.symm hj) (by rw [ho]; simp) hs g hgm (e ▸ hb)) h8
      (fun b hb => ⟨by simpa using (h9 b hb).2, .inr ⟨id, .inl rfl, by rw [ho]; simp, hb⟩⟩)
      (fun n v hv => by
        rw [hv0] at hv
        injection hv with hv
        subst hv
        refine ⟨g, _, e, rfl, setRow_heap w g cur _ e _ h2, h3, ?_⟩
        have e1 : cur.toList.drop (0 + vv.cells.size) = [] := List.drop_eq_nil_of_le (by simp; omega)
        rw [e1, hvi]
        simp)
      (fun e t m xs hv hole h => by cases h) (fun e a b xs hv hole e' xs' hole' g of n c h => by cases h)
    exact ⟨_, _, _, hK, hrun, n', R'⟩
  · cases h
end
end Go.PV
