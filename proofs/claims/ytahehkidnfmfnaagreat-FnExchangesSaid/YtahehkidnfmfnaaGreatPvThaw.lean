/- Rows that are read from now on; boxes closed and opened. -/
import Derived.Test.YtahehkidnfmfnaaGreatPvArgs
set_option linter.all false
namespace Go.PV
open Go

section
variable {P : Program} {Γ : Tab} {G : GTab} {B : Nat → Prop} {new : Id → Prop} {s : St} {tmps : Array Value} {w : World} {φ : Hd} {β : Bl} {R : Type} {r : R}

theorem Rel.thaw (Rl : Rel P B new s tmps w φ β) {id : Id} {e a : TypeId} {b : Ty} {xs : List (Ty.list a b).T} {hv : Nat} (h : s.sto id = some (.sl e (.list a b) .deep xs hv none)) :
    ∃ B' β', (Nx s.sto φ w B (s.sto.puts [(id, some (.sl e (.list a b) .own xs hv none))]) φ w B' ∧ Gr s.sto w B β (s.sto.puts [(id, some (.sl e (.list a b) .own xs hv none))]) w B' β') ∧
      Rel P B' new ⟨s.env, s.sto.puts [(id, some (.sl e (.list a b) .own xs hv none))]⟩ tmps w φ β' := by
  obtain ⟨v, h1, h2, h3, h4⟩ := Rl.obj id _ h
  have h2 : OwD P b w B v xs none (β id) := h2
  have hput : (s.sto.puts [(id, some (.sl e (.list a b) .own xs hv none))]) id = some (.sl e (.list a b) .own xs hv none) := put_same _ _ _
  -- what the rows' blocks are
  obtain ⟨g1, rb, hsub, hg1, how⟩ : ∃ (g1 rb : List Nat), (∀ x, x ∈ β id ↔ x ∈ g1 ∨ x ∈ rb) ∧ (g1.Nodup ∧ ∀ x ∈ g1, x ∉ rb) ∧ OwL P (.list a b) w (fun x => B x ∨ x ∈ rb) v xs g1 := by
    rcases h2 with ⟨h5, h6, h7⟩ | ⟨g, o, c, cur, e', bss, h5, h6, h7, h8, h9, h10, h11⟩
    · exact ⟨[], [], by simp [h7], by simp, .inl ⟨h5, h6, rfl⟩⟩
    · rw [h9] at h3
      obtain ⟨h12, h13⟩ := List.nodup_cons.1 h3
      refine ⟨[g], bss.flatten, fun x => by rw [h9]; simp, ⟨by simp, fun x hx => by have := List.mem_singleton.1 hx; subst this; exact h12⟩, .inr ⟨g, o, c, cur, e', h5, h6, h7, by simpa [Ty.n] using h8, rfl, fun i hi => ?_⟩⟩
      obtain ⟨u, q1, q2, q3⟩ := h11 i hi
      rcases q3 with ⟨q3, _⟩ | ⟨b1, q3, q4⟩
      · cases q3
      · refine ⟨[u], rfl, fun j hj => ?_, ?_⟩
        · have : j = 0 := by simp at hj; omega
          subst this
          simpa [Ty.n] using q1
        · exact OwL.rd q4 a (fun _ h => .inl h) fun x hx => .inr (List.mem_flatten.2 ⟨b1, List.mem_of_getElem? q3, hx⟩)
  have hsid : s.sto id ≠ none := by rw [h]; simp
  refine ⟨fun x => B x ∨ x ∈ rb, setH β id g1, ?_⟩
  refine Rel.gen (T := fun j => j = id) (K := fun _ => True) Rl (fun j hj => ⟨put_other _ _ hj, rfl, setH_other _ _ hj⟩) (fun _ _ h => h) (Fr.refl _ _) (fun _ _ => trivial)
    (fun x hx => hx.imp _root_.id fun hx => .inr ⟨id, hsid, (hsub x).2 (.inr hx)⟩) (fun _ _ => trivial) (fun _ _ _ _ _ => trivial) (fun _ h => .inl h)
    (fun x hx => ?_) (fun j hj hs x hx hB => ?_) (fun j o hj ho => ?_) (fun i j hij hi hj => absurd (hi.trans hj.symm) hij) (fun j hj _ e1 t m xs1 hv1 hole hs => ?_) (fun i e1 a1 b1 xs1 hv1 hole e' xs' hole' g o n c hi hs => ?_) Rl.new
  · rcases hx with hx | hx
    · exact Rl.low x hx
    · exact (h4 x ((hsub x).2 (.inr hx))).2
  · obtain ⟨oj, hoj⟩ := Option.ne_none_iff_exists'.1 hs
    rcases hB with hB | hB
    · obtain ⟨_, _, _, _, h9⟩ := Rl.obj j _ hoj
      exact (h9 x hx).1 hB
    · exact Rl.sep id j (Ne.symm hj) hsid hs x ((hsub x).2 (.inr hB)) hx
  · subst hj
    rw [hput] at ho
    injection ho with ho
    subst ho
    rw [setH_same]
    refine ⟨fun _ => ⟨v, h1, how⟩, hg1.1, fun x hx => ?_⟩
    have hm := (hsub x).2 (.inl hx)
    refine ⟨fun hB => ?_, (h4 x hm).2, .inr ⟨j, rfl, hsid, hm⟩⟩
    rcases hB with hB | hB
    · exact (h4 x hm).1 hB
    · exact hg1.2 x hx hB
  · subst hj
    rw [hput] at hs
    cases hs
    exact ⟨_, _, _, _, _, h, Nat.le_refl _, fun h => by cases h⟩
  · subst hi
    rw [hput] at hs
    cases hs

def Thawed (σ : Sto) (u : Upd) : Prop := ∀ p ∈ u, ∃ e a b, ∃ xs : List (Ty.list a b).T, ∃ hv, σ p.1 = some (.sl e (.list a b) .deep xs hv none) ∧ p.2 = some (.sl e (.list a b) .own xs hv none)

theorem rowsC_ok {σ : Sto} {c : C} : Thawed σ (rowsC σ c) := by
  unfold rowsC
  split
  · split
    · rename_i id e a b xs hv ho
      intro p hp
      have := List.mem_singleton.1 hp
      subst this
      exact ⟨e, a, b, xs, hv, ho, rfl⟩
    · intro p hp; simp at hp
  · intro p hp; simp at hp
theorem rowsU_ok {σ : Sto} : ∀ {ps : List (Mode × Ty)} {vs : List V}, Thawed σ (rowsU σ ps vs) := by
  intro ps
  induction ps with
  | nil => intro vs; cases vs <;> (intro p hp; simp [rowsU] at hp)
  | cons q ps ih =>
    intro vs
    obtain ⟨m, t⟩ := q
    cases vs with
    | nil => intro p hp; cases m <;> cases t <;> simp [rowsU] at hp
    | cons v vs =>
      have key : ∀ c, Thawed σ (rowsC σ c ++ rowsU σ ps vs) := fun c p hp => by
        rcases List.mem_append.1 hp with h | h
        · exact rowsC_ok p h
        · exact ih p h
      cases m <;> cases t <;> cases v <;> first | exact ih | exact key _

theorem Rel.thaws {u : Upd} : ∀ {s : St} {B : Nat → Prop} {β : Bl}, Rel P B new s tmps w φ β → Thawed s.sto u → (u.map (·.1)).Nodup →
    ∃ B' β', (Nx s.sto φ w B (s.sto.puts u) φ w B' ∧ Gr s.sto w B β (s.sto.puts u) w B' β') ∧ Rel P B' new ⟨s.env, s.sto.puts u⟩ tmps w φ β' := by
  induction u with
  | nil =>
    intro s B β Rl _ _
    obtain ⟨n, R'⟩ := Rl.world (Fr.refl w _)
    exact ⟨B, β, n, R'⟩
  | cons p u ih =>
    intro s B β Rl ht hn
    obtain ⟨i, o⟩ := p
    obtain ⟨e, a, b, xs, hv, h1, h2⟩ := ht (i, o) (by simp)
    simp only at h1 h2
    subst h2
    obtain ⟨B1, β1, n1, R1⟩ := Rl.thaw h1
    simp only [List.map_cons, List.nodup_cons] at hn
    obtain ⟨B2, β2, n2, R2⟩ := ih R1 (fun p hp => by
      obtain ⟨e', a', b', xs', hv', h3, h4⟩ := ht p (by simp [hp])
      have hne : p.1 ≠ i := fun e => hn.1 (e ▸ List.mem_map.2 ⟨p, hp, rfl⟩)
      exact ⟨e', a', b', xs', hv', by rw [← h3]; exact put_other _ _ hne, h4⟩) hn.2
    exact ⟨B2, β2, ⟨n1.1.trans n2.1, n1.2.trans n2.2⟩, R2⟩

theorem Rel.coll (Rl : Rel P B new s tmps w φ β) {id : Id} {t : Ty} {cs : List C} {x : t.T} (h : s.sto id = some (.box cs)) (hl : cs.length = t.n) (hnd : (id :: refs s.sto t cs).Nodup) (hx : ownCs s.sto (fun _ => none) true t cs = some x) :
    ∃ β', (Nx s.sto φ w B (s.sto.puts ((refs s.sto t cs).map (fun j => (j, none)) ++ [(id, some (.mbox t x))])) φ w B ∧ Gr s.sto w B β (s.sto.puts ((refs s.sto t cs).map (fun j => (j, none)) ++ [(id, some (.mbox t x))])) w B β') ∧
      Rel P B new ⟨s.env, s.sto.puts ((refs s.sto t cs).map (fun j => (j, none)) ++ [(id, some (.mbox t x))])⟩ tmps w φ β' := by
  obtain ⟨v, h1, ⟨g, cur, e, h2, h3, h4, h5⟩, h6, h7⟩ := Rl.obj id _ h
  obtain ⟨q1, q2⟩ := ownCs_rel (Bc := B) Rl (fun _ _ h => h) (σ' := fun _ => none) (fun _ _ h => by cases h) (fun b h => by
    rcases h with h | ⟨i, hi, _⟩
    · exact h
    · exact absurd rfl hi) h5 hx
  obtain ⟨hni, hnr⟩ := List.nodup_cons.1 hnd
  have hσ : ∀ j, (s.sto.puts ((refs s.sto t cs).map (fun j => (j, none)) ++ [(id, some (.mbox t x))])) j = if j = id then some (.mbox t x) else if j ∈ refs s.sto t cs then none else s.sto j := fun j => by
    rw [puts_append]
    show (Sto.put _ id _) j = _
    by_cases hj : j = id
    · rw [if_pos hj, hj]; exact put_same _ _ _
    · rw [if_neg hj, put_other _ _ hj, puts_none]
  have hblk : ∀ {i b}, s.sto i ≠ none → b ∈ β i → ¬ B b ∧ b < w.heap.size := fun {i b} hs hb => by
    obtain ⟨o, ho⟩ := Option.ne_none_iff_exists'.1 hs
    obtain ⟨_, _, _, _, h4⟩ := Rl.obj i o ho
    exact h4 b hb
  have hsid : s.sto id ≠ none := by rw [h]; simp
  have hbnd : ((refs s.sto t cs).flatMap β).Nodup := by
    have key : ∀ l : List Id, l.Nodup → (∀ i ∈ l, s.sto i ≠ none) → (l.flatMap β).Nodup := by
      intro l
      induction l with
      | nil => intro _ _; simp
      | cons d l ih =>
        intro hn hs
        simp only [List.flatMap_cons]
        rw [List.nodup_append]
        obtain ⟨o, ho⟩ := Option.ne_none_iff_exists'.1 (hs d (by simp))
        obtain ⟨_, _, _, h3, _⟩ := Rl.obj d o ho
        refine ⟨h3, ih (List.nodup_cons.1 hn).2 fun d hd => hs d (by simp [hd]), fun x hx y hy e => ?_⟩
        subst e
        obtain ⟨d', hd', hb⟩ := List.mem_flatMap.1 hy
        exact Rl.sep d d' (fun e => (List.nodup_cons.1 hn).1 (e ▸ hd')) (hs d (by simp)) (hs d' (by simp [hd'])) x hx hb
    exact key _ hnr q2
  obtain ⟨n, R'⟩ := Rel.turn (gone := refs s.sto t cs) (σ' := s.sto.puts ((refs s.sto t cs).map (fun j => (j, none)) ++ [(id, some (.mbox t x))])) (bs := g :: (refs s.sto t cs).flatMap β)
    (w' := w) (K := fun _ => True) Rl h hni (by rw [hσ, if_pos rfl]) (fun j hj => by rw [hσ, if_neg (fun (e1 : j = id) => hni (e1 ▸ hj)), if_pos hj]) (fun j h1 h2 => by rw [hσ, if_neg h1, if_neg h2]) (Fr.refl _ _) (fun _ _ => trivial) (fun _ _ => trivial) (fun _ _ _ _ _ _ => trivial)
    (List.nodup_cons.2 ⟨fun hm => by
      obtain ⟨i, hi, hb⟩ := List.mem_flatMap.1 hm
      exact Rl.sep id i (fun (e1 : id = i) => hni (e1 ▸ hi)) hsid (q2 i hi) g (by rw [h4]; simp) hb, hbnd⟩)
    (fun b hb => by
      rcases List.mem_cons.1 hb with rfl | hb
      · exact ⟨(hblk hsid (by rw [h4]; simp)).2, .inr ⟨id, .inl rfl, hsid, by rw [h4]; simp⟩⟩
      · obtain ⟨i, hi, hb⟩ := List.mem_flatMap.1 hb
        exact ⟨(hblk (q2 i hi) hb).2, .inr ⟨i, .inr hi, q2 i hi, hb⟩⟩)
    (fun n v' hv => by
      rw [h1] at hv
      injection hv with hv
      subst hv
      exact ⟨g, cur, e, _, by rw [h2], h3, q1, rfl⟩)
    (fun e t m xs hv hole h => by cases h) (fun e a b xs hv hole e' xs' hole' g of n c h => by cases h)
  exact ⟨_, n, R'⟩

theorem Rel.opened (Rl : Rel P B new s tmps w φ β) {d0 : Nat} {a : Ty} (hnew : ∀ j, j < lists a → new (d0 + j)) {id : Id} {y : a.T} (ho : s.sto id = some (.mbox a y)) :
    ∃ φ' β' cur e g, φ id = some (.pointer (some ⟨g, 0, none⟩)) ∧ w.heap[g]? = some (.cells cur e (0, 0)) ∧ cur.toList.length = a.n ∧
      CsR P (s.sto.puts ((id, none) :: ((mkOwn a y d0).2.1 ++ [(id, some (.box (mkOwn a y d0).1))]))) φ' w B (mkOwn a y d0).1 cur.toList ∧
      (Nx s.sto φ w B (s.sto.puts ((id, none) :: ((mkOwn a y d0).2.1 ++ [(id, some (.box (mkOwn a y d0).1))]))) φ' w B ∧ Gr s.sto w B β (s.sto.puts ((id, none) :: ((mkOwn a y d0).2.1 ++ [(id, some (.box (mkOwn a y d0).1))]))) w B β') ∧
      Rel P B (fun i => new i ∧ ¬ (d0 ≤ i ∧ i < d0 + lists a)) ⟨s.env, s.sto.puts ((id, none) :: ((mkOwn a y d0).2.1 ++ [(id, some (.box (mkOwn a y d0).1))]))⟩ tmps w φ' β' := by
  obtain ⟨v, h1, h3, h4, h5⟩ := Rl.obj id _ ho
  obtain ⟨g, cur, e, b, h6, h7, h8, h9⟩ := h3
  injection h6 with h6 _
  subst h6
  obtain ⟨N, p1, p2, p3, p4, p5, p6, p7⟩ := mkOwn_rel d0 h8
  have hsid : s.sto id ≠ none := by rw [ho]; simp
  have hNid : ∀ n ∈ N, d0 ≤ n.id ∧ n.id < d0 + lists a := fun n hn => by
    have hm : n.id ∈ N.map (·.id) := List.mem_map.2 ⟨n, hn, rfl⟩
    rw [p3, List.mem_range'_1, p5] at hm
    exact hm
  have hNnew : ∀ n ∈ N, new n.id := fun n hn => by
    obtain ⟨q1, q2⟩ := hNid n hn
    have := hnew (n.id - d0) (Nat.sub_lt_left_of_lt_add q1 q2)
    rwa [Nat.add_sub_cancel' q1] at this
  have hidN : id ∉ N.map (·.id) := fun hm => by
    obtain ⟨n, hn, e⟩ := List.mem_map.1 hm
    exact hsid (Rl.free (e ▸ hNnew n hn))
  have hnd9 := h4
  rw [h9] at hnd9
  obtain ⟨hgb, hbnd⟩ := List.nodup_cons.1 hnd9
  have hLnd : ((N ++ [(⟨id, .box (mkOwn a y d0).1, .pointer (some ⟨g, 0, none⟩), [g]⟩ : NObj)]).map (·.id)).Nodup := by
    rw [List.map_append, List.nodup_append]
    refine ⟨by rw [p3]; exact List.nodup_range', by simp, fun x hx y hy e => ?_⟩
    simp at hy
    subst e
    subst hy
    exact hidN hx
  have hin : ∀ n ∈ N ++ [(⟨id, .box (mkOwn a y d0).1, .pointer (some ⟨g, 0, none⟩), [g]⟩ : NObj)], ∀ x ∈ n.bs, x ∈ β id := fun n hn x hx => by
    rw [h9]
    rcases List.mem_append.1 hn with h | h
    · exact List.mem_cons_of_mem _ (by rw [p2]; exact List.mem_flatMap.2 ⟨n, h, hx⟩)
    · have := List.mem_singleton.1 h
      subst this
      simp at hx
      simp [hx]
  obtain ⟨n2, R2⟩ := Rel.adopt (gone := [id]) (L := N ++ [⟨id, .box (mkOwn a y d0).1, .pointer (some ⟨g, 0, none⟩), [g]⟩]) (w' := w) (K := fun _ => True) (B' := B) Rl hLnd
    (fun n hn => by
      rcases List.mem_append.1 hn with h | h
      · exact .inl (hNnew n h)
      · have := List.mem_singleton.1 h
        subst this
        exact .inr ⟨by simp, h1, fun e t m xs hv hole h => by cases h⟩)
    (fun n hn σ φ' hφ => by
      rcases List.mem_append.1 hn with h | h
      · exact (p6 n h).1 _ _
      · have := List.mem_singleton.1 h
        subst this
        exact ⟨g, cur, e, rfl, h7, rfl, p7 σ φ' fun m hm => hφ m (List.mem_append_left _ hm)⟩)
    (by
      rw [List.flatMap_append, ← p2]
      simp only [List.flatMap_cons, List.flatMap_nil, List.append_nil]
      rw [List.nodup_append]
      refine ⟨hbnd, by simp, fun x hx y hy e => ?_⟩
      simp at hy
      subst e
      subst hy
      exact hgb hx)
    (fun n hn x hx => by
      have hm := hin n hn x hx
      exact ⟨(h5 x hm).1, (h5 x hm).2, fun k hk hs hbk => Rl.sep id k (fun e => hk (by simp [e])) hsid hs x hm hbk, .inr ⟨id, hsid, hm⟩⟩)
    (Fr.refl _ _) (fun _ _ => trivial) (fun _ h => .inl h) (fun _ _ => trivial) (fun _ _ _ _ _ => trivial) (fun _ h => h) Rl.low
    (fun k hk hs x hx hB => by
      obtain ⟨o, hok⟩ := Option.ne_none_iff_exists'.1 hs
      obtain ⟨_, _, _, _, h10⟩ := Rl.obj k o hok
      exact (h10 x hx).1 hB)
  have he : (id, (none : Option PObj)) :: ((mkOwn a y d0).2.1 ++ [(id, some (.box (mkOwn a y d0).1))]) = (([id].map fun i => (i, none)) ++ (N ++ [(⟨id, .box (mkOwn a y d0).1, .pointer (some ⟨g, 0, none⟩), [g]⟩ : NObj)]).map NObj.up) := by
    rw [p1]
    simp [NObj.up]
  rw [he]
  refine ⟨_, _, cur, e, g, h1, h7, h8.len, ?_, n2, R2.env, R2.obj, R2.sep, R2.low, fun i hi => R2.new i ⟨hi.1, fun hm => ?_⟩⟩
  · exact p7 _ _ fun n hn => phiL_mem hLnd (List.mem_append_left _ hn)
  · rw [List.map_append] at hm
    rcases List.mem_append.1 hm with hm | hm
    · obtain ⟨n, hn, rfl⟩ := List.mem_map.1 hm
      exact hi.2 (hNid n hn)
    · simp at hm
      subst hm
      exact hsid (Rl.free hi.1)

theorem eff_open (hΓ : TabOk P Γ) (Rl : Rel P B new s tmps w φ β) {d0 : Nat} {a : Ty} (hnew : lists a ≤ 32 → ∀ j, j < lists a → new (d0 + j)) {τ : TypeId} {d : TD} (hs : Γ τ = some d) {id : Id} {off : Nat} {y : a.T} {vx : Value} {K : Kont R}
    (ho : s.sto id = some (.mbox a y)) (hx : VR P s.sto φ w B (.one (.adr id off)) vx) (hl : lists a ≠ 0) (h : openF (some d0) d.ty id off a y K = some r) :
    Eff P B (fun i => new i ∧ ¬ (d0 ≤ i ∧ i < d0 + lists a)) s tmps w φ β (Instr.loadAt τ vx) K r := by
  unfold openF at h
  rw [show Nat.beq (lists a) 0 = false from by cases hq : Nat.beq (lists a) 0 with | false => rfl | true => exact absurd (beq_eq hq) hl] at h
  obtain ⟨hb, hK⟩ := cond_some (show cond _ _ _ = some r from h)
  obtain ⟨hb1, hb2⟩ := both_true.1 hb
  obtain ⟨hb3, hb4⟩ := both_true.1 hb1
  have hb3 := beq_eq hb3
  have hty := tyb_eq hb4
  have hb2 := ble_le hb2
  clear h hb hb1 hb4
  subst hb3
  obtain ⟨g, h1, rfl⟩ := hx
  obtain ⟨φ', β', cur, e, g', h2, h7, h8, hcs, n2, R2⟩ := Rl.opened (hnew hb2) ho
  rw [h1] at h2
  injection h2 with h2
  injection h2 with h2
  injection h2 with h2
  injection h2 with h2
  subst h2
  refine ⟨_, _, d.ty.mk cur.toList, _, _, _, _, hK, ?_, ?_, n2, R2⟩
  · have hc : Cells w g 0 cur.toList := fun j hj => by
      rw [cell_of_heap h7, Nat.zero_add, ← Array.getElem?_toList]
      exact List.getElem?_eq_getElem hj
    exact run_loadVar hΓ hs (by rw [← hty]; exact h8) hc
  · rw [← hty]
    exact ofCells_rel hcs fun ha => by rw [h8, n_one ha]
theorem eff_open0 (hΓ : TabOk P Γ) (Rl : Rel P B new s tmps w φ β) {a : Ty} {τ : TypeId} {d : TD} (hs : Γ τ = some d) {id : Id} {off : Nat} {y : a.T} {vx : Value} {K : Kont R} {dst : Option Id}
    (ho : s.sto id = some (.mbox a y)) (hx : VR P s.sto φ w B (.one (.adr id off)) vx) (hl : lists a = 0) (h : openF dst d.ty id off a y K = some r) :
    Eff P B new s tmps w φ β (Instr.loadAt τ vx) K r := by
  unfold openF at h
  rw [show Nat.beq (lists a) 0 = true from by rw [hl]; rfl] at h
  obtain ⟨hb, hK⟩ := cond_some (show cond _ _ _ = some r from h)
  have hb := ble_le hb
  clear h
  obtain ⟨g, h1, rfl⟩ := hx
  obtain ⟨φ', β', cur, e, g', h2, h7, h8, hcs, n2, R2⟩ := Rl.opened (d0 := 0) (fun j hj => by rw [hl] at hj; exact absurd hj (Nat.not_lt_zero j)) ho
  rw [h1] at h2
  injection h2 with h2
  injection h2 with h2
  injection h2 with h2
  injection h2 with h2
  subst h2
  have R3 : Rel P B new _ tmps w φ' β' := ⟨R2.env, R2.obj, R2.sep, R2.low, fun i hi => R2.new i ⟨hi, fun hm => by rw [hl] at hm; exact absurd hm.2 (Nat.not_lt_of_le hm.1)⟩⟩
  refine ⟨_, _, d.ty.mk ((cur.toList.drop off).take d.ty.n), _, _, _, _, hK, ?_, ?_, n2, R3⟩
  · have hc : Cells w g off ((cur.toList.drop off).take d.ty.n) := fun j hj => by
      have hj2 : j < d.ty.n ∧ off + j < cur.toList.length := by simp at hj; simp; omega
      rw [cell_of_heap h7, ← Array.getElem?_toList, List.getElem?_eq_getElem hj2.2, List.getElem_take, List.getElem_drop]
    exact run_loadVar hΓ hs (by rw [List.length_take, List.length_drop, h8]; omega) hc
  · exact partCs_rel hcs (by rw [h8]; exact hb)
end
end Go.PV
