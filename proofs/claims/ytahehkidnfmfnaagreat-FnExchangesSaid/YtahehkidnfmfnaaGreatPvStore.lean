/- Stores. -/
import Derived.Test.YtahehkidnfmfnaaGreatPvLit
set_option linter.all false
namespace Go.PV
open Go

section
variable {P : Program} {Γ : Tab} {B : Nat → Prop} {new : Id → Prop} {s : St} {tmps : Array Value} {w : World} {φ : Hd} {β : Bl} {R : Type} {r : R}

theorem Rel.turn (Rl : Rel P B new s tmps w φ β) {id : Id} {o o' : PObj} (hs : s.sto id = some o) {σ' : Sto} {bs : List Nat} {w' : World} {K : Nat → Prop} {gone : List Id} (hidg : id ∉ gone)
    (ho : σ' id = some o') (hgone : ∀ j, j ∈ gone → σ' j = none) (hstay : ∀ j, j ≠ id → j ∉ gone → σ' j = s.sto j)
    (hK : Fr w w' K) (hKu : ∀ b, (∀ j, s.sto j ≠ none → b ∉ β j) → K b) (hKB : ∀ b, B b → K b) (hKo : ∀ j, j ≠ id → j ∉ gone → s.sto j ≠ none → ∀ b ∈ β j, K b)
    (hnd : bs.Nodup) (hbs : ∀ b ∈ bs, b < w'.heap.size ∧ (w.heap.size ≤ b ∨ ∃ c, (c = id ∨ c ∈ gone) ∧ s.sto c ≠ none ∧ b ∈ β c))
    (hobj : Nx s.sto φ w B σ' φ w' B → ∀ v, φ id = some v → ObR P σ' φ w' B v bs o')
    (hsto : ∀ e t m xs hv hole, o' = .sl e t m xs hv hole → ∃ e' m' xs' hv' hole', o = .sl e' t m' xs' hv' hole' ∧ hv' ≤ hv ∧ (m = .deep → m' = .deep))
    (hheads : ∀ e a b xs hv hole e' xs' hole' g of n c, o' = .sl e (.list a b) .deep xs hv hole → o = .sl e' (.list a b) .deep xs' hv hole' →
      φ id = some (.slice (some ⟨g, of, none⟩) n c) → ∀ k v, k < n → w.cell? ⟨g, of + k, none⟩ = some v → w'.cell? ⟨g, of + k, none⟩ = some v) :
    (Nx s.sto φ w B σ' φ w' B ∧ Gr s.sto w B β σ' w' B (setH β id bs)) ∧ Rel P B new ⟨s.env, σ'⟩ tmps w' φ (setH β id bs) := by
  refine Rel.gen (T := fun j => j = id ∨ j ∈ gone) (K := K) Rl (fun j hj => ?_) (fun j v hv => hv) hK hKu (fun _ h => .inl h) hKB (fun j hj hs b hb => ?_) (fun _ h => h) (fun b hb => Nat.lt_of_lt_of_le (Rl.low b hb) hK.size)
    (fun j hj hs b hb => ?_) (fun j o'' hj ho' => ?_) (fun i j hij hi hj hsi hsj b hbi hbj => ?_) (fun j hj hn e t m xs hv hole hs' => ?_) (fun i e a b xs hv hole e' xs' hole' g of n c hi hs1 hs2 => ?_) Rl.new
  · have h1 : j ≠ id := fun e => hj (.inl e)
    exact ⟨hstay j h1 fun e => hj (.inr e), rfl, setH_other _ _ h1⟩
  · exact hKo j (fun e => hj (.inl e)) (fun e => hj (.inr e)) hs b hb
  · obtain ⟨oj, hoj⟩ := Option.ne_none_iff_exists'.1 hs
    obtain ⟨_, _, _, _, h4⟩ := Rl.obj j oj hoj
    exact (h4 b hb).1
  · by_cases h : j = id
    · subst h
      rw [ho] at ho'
      injection ho' with ho'
      subst ho'
      have e2 : setH β j bs j = bs := setH_same _ _ _
      rw [e2]
      obtain ⟨v, hv, _⟩ := Rl.obj j o hs
      refine ⟨fun n => ⟨v, hv, hobj n v hv⟩, hnd, fun b hb => ⟨fun hB => ?_, (hbs b hb).1, (hbs b hb).2⟩⟩
      rcases (hbs b hb).2 with h | ⟨c, hc, hc', hb'⟩
      · exact absurd (Rl.low b hB) (by omega)
      · obtain ⟨oc, hoc⟩ := Option.ne_none_iff_exists'.1 hc'
        obtain ⟨_, _, _, _, h4⟩ := Rl.obj c oc hoc
        exact (h4 b hb').1 hB
    · rw [hgone j (hj.resolve_left h)] at ho'
      cases ho'
  · rcases hi with rfl | hi <;> rcases hj with rfl | hj
    · exact hij rfl
    · exact hsj (hgone j hj)
    · exact hsi (hgone i hi)
    · exact hsi (hgone i hi)
  · rcases hj with rfl | hj
    · rw [ho] at hs'
      injection hs' with hs'
      obtain ⟨e', m', xs', hv', hole', h1, h2⟩ := hsto e t m xs hv hole hs'
      exact ⟨e', m', xs', hv', hole', by rw [hs, h1], h2⟩
    · rw [hgone j hj] at hs'; cases hs'
  · rcases hi with rfl | hi
    · rw [ho] at hs1
      rw [hs] at hs2
      injection hs1 with hs1
      injection hs2 with hs2
      exact hheads e a b xs hv hole e' xs' hole' g of n c hs1 hs2
    · rw [hgone i hi] at hs1; cases hs1

theorem ku {id : Id} {o : PObj} {g : Nat} (h : s.sto id = some o) (hg : g ∈ β id) : ∀ b, (∀ j, s.sto j ≠ none → b ∉ β j) → b ≠ g := fun b hb e => hb id (by rw [h]; simp) (e ▸ hg)
theorem Fr.setRow (w : World) (g : Nat) (cs : Array Value) : Fr w (w.setRow g cs) (fun b => b ≠ g) :=
  ⟨rfl, rfl, rfl, Nat.le_refl _, by simp, fun b _ hb => setRow_other w g b cs hb⟩

theorem run_storeAt {τ : TypeId} {i : TypeInfo} (hi : P.info? τ = some i) {g o : Nat} {v : Value} {cur : Array Value} {e : TypeId} (hg : w.heap[g]? = some (.cells cur e (0, 0))) (hs : v.cells.size = i.size)
    (hle : o + v.cells.size ≤ cur.size) (h1 : ∀ u ∈ v.cells.toList, u.oneCell' = true) :
    (Instr.storeAt τ (.pointer (some ⟨g, o, none⟩)) v).run P w = .ok () (w.setRow g (cur.toList.take o ++ v.cells.toList ++ cur.toList.drop (o + v.cells.size)).toArray) := by
  have := run_storeCells_at (P := P) g o e v.cells.toList 0 cur w hg (by simpa using hle) h1
  simp only [Nat.add_zero, Array.length_toList] at this
  rw [hs] at this ⊢
  simp only [List.append_assoc] at this
  simp [Instr.storeAt, storeVar, Instr.sureAddr, run_size hi, hs, this]

theorem seg_at {cur : Array Value} {p : Nat} {us : List Value} (h : p + us.length ≤ cur.size) (k : Nat) :
    (cur.toList.take p ++ us ++ cur.toList.drop (p + us.length)).toArray[k]? = if k < p then cur[k]? else if k < p + us.length then us[k - p]? else cur[k]? := by
  have hl : (cur.toList.take p).length = p := by simp; omega
  rw [List.getElem?_toArray]
  by_cases h1 : k < p
  · rw [if_pos h1, List.append_assoc, List.getElem?_append_left (by omega), List.getElem?_take, if_pos h1]
    simp
  · rw [if_neg h1, List.append_assoc, List.getElem?_append_right (by omega), hl]
    by_cases h2 : k < p + us.length
    · rw [if_pos h2, List.getElem?_append_left (by omega)]
    · rw [if_neg h2, List.getElem?_append_right (by omega), List.getElem?_drop]
      have : p + us.length + (k - p - us.length) = k := by omega
      rw [this]
      simp

theorem OwL.set {t : Ty} {v : Value} {xs : List t.T} {bs : List Nat} (h : OwL P t w B v xs bs) {g o n c : Nat} (hv : v = .slice (some ⟨g, o, none⟩) n c) {i : Nat} (hi : i < xs.length) {us : List Value} {y : t.T}
    (hus : us.length = t.n) (hy : Rd P t w B us y) (hB : ∀ b, B b → b ≠ g) :
    ∃ cur e, w.heap[g]? = some (.cells cur e (0, 0)) ∧ bs = [g] ∧ o + i * t.n + us.length ≤ cur.size ∧
      OwL P t (w.setRow g (cur.toList.take (o + i * t.n) ++ us ++ cur.toList.drop (o + i * t.n + us.length)).toArray) B v (xs.set i y) bs := by
  rcases h with ⟨rfl, _, _⟩ | ⟨g', o', c', cur, e, rfl, h2, h3, h4, h5, h6⟩
  · cases hv
  · injection hv with hv1 hv2 hv3
    injection hv1 with hv1
    injection hv1 with hv1 hv4
    subst hv1
    subst hv4
    have hle : o' + i * t.n + us.length ≤ cur.size := by
      have : (i + 1) * t.n ≤ c' * t.n := Nat.mul_le_mul_right _ (by omega)
      rw [Nat.add_mul, Nat.one_mul] at this
      omega
    have hfr : Fr w (w.setRow g' (cur.toList.take (o' + i * t.n) ++ us ++ cur.toList.drop (o' + i * t.n + us.length)).toArray) B := (Fr.setRow w g' _).mono hB
    refine ⟨cur, e, h2, h5, hle, .inr ⟨g', o', c', _, e, by simp, setRow_heap w g' cur _ e _ h2, by simpa using h3, ?_, h5, fun k hk => ?_⟩⟩
    · have : (cur.toList.take (o' + i * t.n) ++ us ++ cur.toList.drop (o' + i * t.n + us.length)).toArray.size = cur.size := by
        simp
        omega
      rw [this]
      exact h4
    · have hk' : k < xs.length := by simpa using hk
      by_cases hki : k = i
      · subst hki
        refine ⟨us, hus, fun j hj => ?_, ?_⟩
        · rw [seg_at hle, if_neg (by omega), if_pos (by omega)]
          have : o' + k * t.n + j - (o' + k * t.n) = j := by omega
          rw [this]
          exact List.getElem?_eq_getElem hj
        · rw [List.getElem_set_self]
          exact hy.fr hfr
      · obtain ⟨us', h7, h8, h9⟩ := h6 k hk'
        refine ⟨us', h7, fun j hj => ?_, ?_⟩
        · rw [seg_at hle]
          rcases Nat.lt_or_gt_of_ne hki with hlt | hgt
          · have : (k + 1) * t.n ≤ i * t.n := Nat.mul_le_mul_right _ hlt
            rw [Nat.add_mul, Nat.one_mul] at this
            rw [if_pos (by omega)]
            exact h8 j hj
          · have : (i + 1) * t.n ≤ k * t.n := Nat.mul_le_mul_right _ hgt
            rw [Nat.add_mul, Nat.one_mul] at this
            rw [if_neg (by omega), if_neg (by omega)]
            exact h8 j hj
        · have : (xs.set i y)[k] = xs[k] := List.getElem_set_ne (Ne.symm hki) _
          rw [this]
          exact h9.fr hfr

def EffU (P : Program) (B : Nat → Prop) (new' : Id → Prop) (s : St) (tmps : Array Value) (w : World) (φ : Hd) (β : Bl) (S : Sem Unit) (K : Kont R) (r : R) : Prop :=
  ∃ u w' β', K (.one .dead) u = some r ∧ S.run P w = .ok () w' ∧ (Nx s.sto φ w B (s.sto.puts u) φ w' B ∧ Gr s.sto w B β (s.sto.puts u) w' B β') ∧ Rel P B new' ⟨s.env, s.sto.puts u⟩ tmps w' φ β'

theorem nodup_set {l : List (List Nat)} (h : l.flatten.Nodup) {m : List Nat} (hm : m.Nodup) (hd : ∀ x ∈ m, x ∉ l.flatten) (i : Nat) : (l.set i m).flatten.Nodup := by
  induction l generalizing i with
  | nil => simpa using h
  | cons a l ih =>
    simp only [List.flatten_cons, List.nodup_append] at h
    cases i with
    | zero =>
      simp only [List.set_cons_zero, List.flatten_cons, List.nodup_append]
      refine ⟨hm, h.2.1, fun x hx y hy e => ?_⟩
      subst e
      exact hd x hx (by simp only [List.flatten_cons, List.mem_append]; exact .inr hy)
    | succ i =>
      simp only [List.set_cons_succ, List.flatten_cons, List.nodup_append]
      refine ⟨h.1, ih h.2.1 (fun x hx h' => hd x hx (by simp only [List.flatten_cons, List.mem_append]; exact .inr h')) i, fun x hx y hy e => ?_⟩
      subst e
      obtain ⟨k, hk, hy2⟩ := List.mem_flatten.1 hy
      rcases List.mem_or_eq_of_mem_set hk with h' | rfl
      · exact h.2.2 x hx x (List.mem_flatten.2 ⟨k, h', hy2⟩) rfl
      · exact hd x hy2 (by simp only [List.flatten_cons, List.mem_append]; exact .inl hx)

theorem mem_set_flat {l : List (List Nat)} {m : List Nat} {i : Nat} {x : Nat} (h : x ∈ (l.set i m).flatten) : x ∈ m ∨ x ∈ l.flatten := by
  obtain ⟨k, hk, hx⟩ := List.mem_flatten.1 h
  rcases List.mem_or_eq_of_mem_set hk with h' | rfl
  · exact .inr (List.mem_flatten.2 ⟨k, h', hx⟩)
  · exact .inl hx

theorem Rel.notB (Rl : Rel P B new s tmps w φ β) {id : Id} {o : PObj} (h : s.sto id = some o) {g : Nat} (hg : g ∈ β id) : ∀ b, B b → b ≠ g := fun b hb e => by
  subst e
  obtain ⟨_, _, _, _, h4⟩ := Rl.obj id o h
  exact (h4 b hg).1 hb

theorem eff_store_box (Rl : Rel P B new s tmps w φ β) {id : Id} {cs us : List C} (ho : s.sto id = some (.box cs)) {off : Nat} {τ : TypeId} {i : TypeInfo} (hi : P.info? τ = some i) {g : Nat}
    (hφ : φ id = some (.pointer (some ⟨g, 0, none⟩))) {val : Value} (hc : CsR P s.sto φ w B us val.cells.toList) (hl : us.length = i.size) (hle : off + us.length ≤ cs.length) {K : Kont R}
    (h : K (.one .dead) [(id, some (.box (cs.take off ++ us ++ cs.drop (off + us.length))))] = some r) :
    EffU P B new s tmps w φ β (Instr.storeAt τ (.pointer (some ⟨g, off, none⟩)) val) K r := by
  obtain ⟨v, h1, ⟨g', cur, e, h2, h3, h4, h5⟩, h6, h7⟩ := Rl.obj id _ ho
  rw [hφ] at h1
  injection h1 with h1
  rw [← h1] at h2
  injection h2 with h2
  injection h2 with h2
  injection h2 with h2
  subst h2
  have hsz : val.cells.size = us.length := by simpa using hc.1
  have hcur : cur.size = cs.length := by simpa using h5.1
  have hrun := run_storeAt hi h3 (o := off) (v := val) (by rw [hsz, hl]) (by omega) hc.2.1
  obtain ⟨n, R'⟩ := Rel.turn (gone := []) (σ' := s.sto.puts [(id, some (.box (cs.take off ++ us ++ cs.drop (off + us.length))))]) (bs := β id)
    (w' := w.setRow g (cur.toList.take off ++ val.cells.toList ++ cur.toList.drop (off + val.cells.size)).toArray) (K := fun b => b ≠ g) Rl ho (by simp) (put_same _ _ _) (by simp)
    (fun j hj _ => put_other _ _ hj) (Fr.setRow w g _) (ku ho (by rw [h4]; simp)) (Rl.notB ho (by rw [h4]; simp)) (fun j hj _ hs b hb e => Rl.sep id j (Ne.symm hj) (by rw [ho]; simp) hs g (by rw [h4]; simp) (e ▸ hb)) h6
    (fun b hb => ⟨by simpa using (h7 b hb).2, .inr ⟨id, .inl rfl, by rw [ho]; simp, hb⟩⟩)
    (fun n v hv => by
      rw [hφ] at hv
      injection hv with hv
      subst hv
      refine ⟨g, _, e, rfl, setRow_heap w g cur _ e _ h3, h4, ?_⟩
      have := (((h5.take off).append hc).append (h5.drop (off + us.length))).next n
      simpa [hsz] using this)
    (fun e t m xs hv hole h => by cases h) (fun e a b xs hv hole e' xs' hole' g of n c h => by cases h)
  exact ⟨_, _, _, h, hrun, n, R'⟩

theorem eff_store_mbox (Rl : Rel P B new s tmps w φ β) {id : Id} {a : Ty} {x : a.T} {us : List C} (ho : s.sto id = some (.mbox a x)) {τ : TypeId} {i : TypeInfo} (hi : P.info? τ = some i) {g : Nat}
    (hφ : φ id = some (.pointer (some ⟨g, 0, none⟩))) {val : Value} (hc : CsR P s.sto φ w B us val.cells.toList) (hl : us.length = i.size) (hle : us.length = a.n) {K : Kont R}
    (h : K (.one .dead) [(id, some (.box us))] = some r) :
    EffU P B new s tmps w φ β (Instr.storeAt τ (.pointer (some ⟨g, 0, none⟩)) val) K r := by
  obtain ⟨v, h1, ⟨g', cur, e, b, h2, h3, h5, h4⟩, h6, h7⟩ := Rl.obj id _ ho
  rw [hφ] at h1
  injection h1 with h1
  rw [← h1] at h2
  injection h2 with h2 _
  injection h2 with h2
  injection h2 with h2
  injection h2 with h2
  subst h2
  have hsz : val.cells.size = us.length := by simpa using hc.1
  have hcur : cur.size = us.length := by have := h5.len; simp only [Array.length_toList] at this; omega
  have hrun := run_storeAt hi h3 (o := 0) (v := val) (by rw [hsz, hl]) (by omega) hc.2.1
  have hgm : g ∈ β id := by rw [h4]; simp
  obtain ⟨n, R'⟩ := Rel.turn (gone := []) (σ' := s.sto.puts [(id, some (.box us))]) (bs := [g])
    (w' := w.setRow g (cur.toList.take 0 ++ val.cells.toList ++ cur.toList.drop (0 + val.cells.size)).toArray) (K := fun b => b ≠ g) Rl ho (by simp) (put_same _ _ _) (by simp)
    (fun j hj _ => put_other _ _ hj) (Fr.setRow w g _) (ku ho hgm) (Rl.notB ho hgm) (fun j hj _ hs b hb e => Rl.sep id j (Ne.symm hj) (by rw [ho]; simp) hs g hgm (e ▸ hb)) (by simp)
    (fun b hb => by
      have := List.mem_singleton.1 hb
      subst this
      exact ⟨by simpa using (h7 _ hgm).2, .inr ⟨id, .inl rfl, by rw [ho]; simp, hgm⟩⟩)
    (fun n v hv => by
      rw [hφ] at hv
      injection hv with hv
      subst hv
      refine ⟨g, _, e, rfl, setRow_heap w g cur _ e _ h3, rfl, ?_⟩
      have := hc.next n
      have e1 : cur.toList.drop (0 + val.cells.size) = [] := List.drop_eq_nil_of_le (by simp; omega)
      have e2 : (cur.toList.take 0 ++ val.cells.toList ++ cur.toList.drop (0 + val.cells.size)).toArray.toList = val.cells.toList := by rw [e1]; simp
      rw [e2]
      exact this)
    (fun e t m xs hv hole h => by cases h) (fun e a b xs hv hole e' xs' hole' g of n c h => by cases h)
  exact ⟨_, _, _, h, hrun, n, R'⟩

theorem eff_store_own (Rl : Rel P B new s tmps w φ β) {id : Id} {e : TypeId} {t : Ty} {xs : List t.T} {hv : Nat} (ho : s.sto id = some (.sl e t .own xs hv none)) {τ : TypeId} {ti : TypeInfo} (hti : P.info? τ = some ti)
    {g o n c : Nat} (hφ : φ id = some (.slice (some ⟨g, o, none⟩) n c)) {i : Int} (h0 : 0 ≤ i) (h1 : i < n) {val : Value} {y : t.T} (hy : Rd P t w B val.cells.toList y) (hsz : ti.size = t.n) {K : Kont R}
    (h : K (.one .dead) [(id, some (.sl e t .own (tSet xs i y) hv none))] = some r) :
    EffU P B new s tmps w φ β (Instr.storeAt τ (.pointer (some ⟨g, o + i.toNat * t.n, none⟩)) val) K r := by
  obtain ⟨v, h2, h3, h4, h5⟩ := Rl.obj id _ ho
  rw [hφ] at h2
  injection h2 with h2
  subst h2
  have h3' : OwL P t w B _ xs (β id) := h3
  have hn : n = xs.length := by
    rcases h3' with ⟨h, _⟩ | ⟨_, _, _, _, _, h, _⟩
    · cases h
    · injection h
  have hb : g ∈ β id := by
    rcases h3' with ⟨h, _⟩ | ⟨_, _, _, _, _, h, _, _, _, h', _⟩
    · cases h
    · cases h; simp [h']
  have hul : val.cells.toList.length = t.n := hy.len
  have hus : val.cells.size = t.n := by simpa using hul
  obtain ⟨cur, e', h6, h7, h8, h9⟩ := OwL.set h3' rfl (i := i.toNat) (by omega) (us := val.cells.toList) (y := y) hul hy (Rl.notB ho hb)
  have hrun := run_storeAt hti h6 (o := o + i.toNat * t.n) (v := val) (by rw [hus, hsz]) (by simpa using h8) hy.one
  have h9' : OwL P t (w.setRow g (cur.toList.take (o + i.toNat * t.n) ++ val.cells.toList ++ cur.toList.drop (o + i.toNat * t.n + val.cells.size)).toArray) B (.slice (some ⟨g, o, none⟩) n c) (tSet xs i y) (β id) := by
    simpa [tSet] using h9
  obtain ⟨n', R'⟩ := Rel.turn (gone := []) (σ' := s.sto.puts [(id, some (.sl e t .own (tSet xs i y) hv none))]) (bs := β id)
    (w' := w.setRow g (cur.toList.take (o + i.toNat * t.n) ++ val.cells.toList ++ cur.toList.drop (o + i.toNat * t.n + val.cells.size)).toArray) (K := fun b => b ≠ g) Rl ho (by simp) (put_same _ _ _) (by simp)
    (fun j hj _ => put_other _ _ hj) (Fr.setRow w g _) (ku ho hb) (Rl.notB ho hb) (fun j hj _ hs b hb' e => Rl.sep id j (Ne.symm hj) (by rw [ho]; simp) hs g hb (e ▸ hb')) h4
    (fun b hb => ⟨by simpa using (h5 b hb).2, .inr ⟨id, .inl rfl, by rw [ho]; simp, hb⟩⟩)
    (fun n v hv => by
      rw [hφ] at hv
      injection hv with hv
      subst hv
      exact h9')
    (fun e1 t1 m1 xs1 hv1 hole1 h => by cases h; exact ⟨_, _, _, _, _, rfl, Nat.le_refl _, fun h => h⟩) (fun e1 a b xs1 hv1 hole1 e' xs' hole' g of n c h => by cases h)
  exact ⟨_, _, _, h, hrun, n', R'⟩

theorem eff_store_row (Rl : Rel P B new s tmps w φ β) {id id2 : Id} {e a : TypeId} {b : Ty} {xs : List (Ty.list a b).T} {ys : List b.T} {hv hv2 : Nat} {a2 : TypeId} {hole : Option Int}
    (ho : s.sto id = some (.sl e (.list a b) .deep xs hv hole)) (ho2 : s.sto id2 = some (.sl a2 b .own ys hv2 none)) (hne : id ≠ id2) {τ : TypeId} {ti : TypeInfo} (hti : P.info? τ = some ti) (hsz : ti.size = 1)
    {g o n c : Nat} (hφ : φ id = some (.slice (some ⟨g, o, none⟩) n c)) {i : Int} (h0 : 0 ≤ i) (h1 : i < n) {val : Value} (hval : φ id2 = some val) (hone : val.oneCell' = true) (hhole : ∀ j, hole = some j → i = j) {K : Kont R}
    (h : K (.one .dead) [(id2, none), (id, some (.sl e (.list a b) .deep (tSet xs i ys) (hv + 1) none))] = some r) :
    EffU P B new s tmps w φ β (Instr.storeAt τ (.pointer (some ⟨g, o + i.toNat, none⟩)) val) K r := by
  obtain ⟨v, h2, h3, h4, h5⟩ := Rl.obj id _ ho
  rw [hφ] at h2
  injection h2 with h2
  subst h2
  obtain ⟨v2, k2, k3, k4, k5⟩ := Rl.obj id2 _ ho2
  rw [hval] at k2
  injection k2 with k2
  subst k2
  have k3 : OwL P b w B val ys (β id2) := k3
  have h3' : OwD P b w B _ xs hole (β id) := h3
  rcases h3' with ⟨hx, _⟩ | ⟨g', o', c', cur, e', bss, hx, h7, h8, h9, h10, h11, h12⟩
  · cases hx
  · injection hx with hx1 hx2 hx3
    injection hx1 with hx1
    injection hx1 with hx1 hx4
    subst hx1
    subst hx4
    have hb : g ∈ β id := by rw [h10]; simp
    have hcs : val.cells = #[val] := one_cells hone
    have hle : o + i.toNat + [val].length ≤ cur.size := by
      have : i.toNat < xs.length := by omega
      simp
      omega
    have hrun := run_storeAt hti h7 (o := o + i.toNat) (v := val) (by rw [hcs, hsz]; rfl) (by rw [hcs]; simpa using hle) (by rw [hcs]; simpa using hone)
    rw [hcs] at hrun
    have hdis : ∀ x ∈ β id2, x ∉ β id := fun x hx => Rl.sep id2 id (Ne.symm hne) (by rw [ho2]; simp) (by rw [ho]; simp) x hx
    rw [h10] at h4
    have hnd := List.nodup_cons.1 h4
    have hkeep : ∀ x, x ∈ β id2 ∨ x ∈ bss.flatten → x ≠ g := fun x hx e => by
      subst e
      rcases hx with h | h
      · exact hdis _ h hb
      · exact hnd.1 h
    obtain ⟨n', R'⟩ := Rel.turn (gone := [id2]) (σ' := s.sto.puts [(id2, none), (id, some (.sl e (.list a b) .deep (tSet xs i ys) (hv + 1) none))]) (bs := g :: (bss.set i.toNat (β id2)).flatten)
      (w' := w.setRow g (cur.toList.take (o + i.toNat) ++ [val] ++ cur.toList.drop (o + i.toNat + [val].length)).toArray) (K := fun b => b ≠ g) Rl ho (by simpa using hne) (put_same _ _ _)
      (fun j hj => by
        simp at hj
        subst hj
        simp only [Sto.puts]
        rw [put_other _ _ (Ne.symm hne), put_same])
      (fun j hj hj' => by
        simp at hj'
        simp only [Sto.puts]
        rw [put_other _ _ hj, put_other _ _ hj'])
      (Fr.setRow w g _) (ku ho hb) (Rl.notB ho hb) (fun j hj _ hs b hb' e => Rl.sep id j (Ne.symm hj) (by rw [ho]; simp) hs g hb (e ▸ hb'))
      (List.nodup_cons.2 ⟨fun hm => hkeep g (mem_set_flat hm) rfl, nodup_set hnd.2 k4 (fun x hx hm => hdis x hx (by rw [h10]; exact List.mem_cons_of_mem _ hm)) _⟩)
      (fun x hx => by
        rcases List.mem_cons.1 hx with rfl | hx
        · exact ⟨by simpa using (h5 x hb).2, .inr ⟨id, .inl rfl, by rw [ho]; simp, hb⟩⟩
        · rcases mem_set_flat hx with hx | hx
          · exact ⟨by simpa using (k5 x hx).2, .inr ⟨id2, .inr (by simp), by rw [ho2]; simp, hx⟩⟩
          · have : x ∈ β id := by rw [h10]; exact List.mem_cons_of_mem _ hx
            exact ⟨by simpa using (h5 x this).2, .inr ⟨id, .inl rfl, by rw [ho]; simp, this⟩⟩)
      (fun n' v hv' => by
        rw [hφ] at hv'
        injection hv' with hv'
        subst hv'
        refine .inr ⟨g, o, c, _, e', bss.set i.toNat (β id2), by simp [tSet]; omega, setRow_heap w g cur _ e' _ h7, ?_, ?_, rfl, by simp [tSet, h11], fun k hk => ?_⟩
        · simp [tSet]; omega
        · have : (cur.toList.take (o + i.toNat) ++ [val] ++ cur.toList.drop (o + i.toNat + [val].length)).toArray.size = cur.size := by
            simp at hle ⊢
            omega
          rw [this]
          omega
        · have hk' : k < xs.length := by simpa [tSet] using hk
          have hat := seg_at hle (o + k)
          by_cases hki : k = i.toNat
          · subst hki
            refine ⟨val, ?_, hone, .inr ⟨β id2, by simp [h11, hk'], ?_⟩⟩
            · rw [hat, if_neg (by omega), if_pos (by simp)]
              simp
            · have : (tSet xs i ys)[i.toNat] = ys := by simp [tSet]
              rw [this]
              exact OwL.next k3 n'.fr n'.keep fun x hx => setRow_other w g x _ (hkeep x (.inl hx))
          · obtain ⟨u, h13, h14, h15⟩ := h12 k hk'
            refine ⟨u, ?_, h14, ?_⟩
            · rw [hat]
              split
              · exact h13
              · rw [if_neg (by simp; omega)]
                exact h13
            · have e1 : (tSet xs i ys)[k] = xs[k] := List.getElem_set_ne (Ne.symm hki) _
              have e2 : (bss.set i.toNat (β id2))[k]? = bss[k]? := List.getElem?_set_ne (Ne.symm hki)
              rw [e1, e2]
              rcases h15 with ⟨h16, _⟩ | ⟨bb, h16, h17⟩
              · have := hhole _ h16
                omega
              · exact .inr ⟨bb, h16, OwL.next h17 n'.fr n'.keep fun x hx => setRow_other w g x _ (hkeep x (.inr (List.mem_flatten.2 ⟨bb, List.mem_of_getElem? h16, hx⟩)))⟩)
      (fun e1 t1 m1 xs1 hv1 hole1 h => by cases h; exact ⟨_, _, _, _, _, rfl, by omega, fun h => h⟩) (fun e1 a1 b1 xs1 hv1 hole1 e2 xs2 hole2 g of n c h h' => by cases h; injection h' with _ _ _ _ h'; omega)
    exact ⟨_, _, _, h, by simpa using hrun, n', R'⟩

theorem eff_store_in (Rl : Rel P B new s tmps w φ β) {id : Id} {e a : TypeId} {b : Ty} {xs : List (Ty.list a b).T} {hv : Nat}
    (ho : s.sto id = some (.sl e (.list a b) .deep xs hv none)) {τ : TypeId} {ti : TypeInfo} (hti : P.info? τ = some ti) (hsz : ti.size = 1) (hbn : b.n = 1)
    {g o n c g2 o2 n2 c2 : Nat} (hφ : φ id = some (.slice (some ⟨g, o, none⟩) n c)) {i j : Int} (j0 : 0 ≤ j) (j1 : j < n) (hcell : w.cell? ⟨g, o + j.toNat, none⟩ = some (.slice (some ⟨g2, o2, none⟩) n2 c2))
    (h0 : 0 ≤ i) (h1 : i < n2) {val : Value} {y : b.T} (hy : Rd P b w B val.cells.toList y) {K : Kont R}
    (h : K (.one .dead) [(id, some (.sl e (.list a b) .deep (tSet xs j (tSet (rd (.list a b) xs j) i y)) hv none))] = some r) :
    EffU P B new s tmps w φ β (Instr.storeAt τ (.pointer (some ⟨g2, o2 + i.toNat, none⟩)) val) K r := by
  obtain ⟨v, h2, h3, h4, h5⟩ := Rl.obj id _ ho
  rw [hφ] at h2
  injection h2 with h2
  subst h2
  have h3' : OwD P b w B _ xs none (β id) := h3
  rcases h3' with ⟨hx, _⟩ | ⟨g', o', c', cur, e', bss, hx, h7, h8, h9, h10, h11, h12⟩
  · cases hx
  · injection hx with hx1 hx2 hx3
    injection hx1 with hx1
    injection hx1 with hx1 hx4
    subst hx1
    subst hx4
    have hj : j.toNat < xs.length := by omega
    obtain ⟨u, h13, h14, h15⟩ := h12 j.toNat hj
    rw [cell_of_heap h7, h13] at hcell
    injection hcell with hcell
    subst hcell
    rcases h15 with ⟨h, _⟩ | ⟨bb, h16, h17⟩
    · cases h
    · have hbb : ∀ x ∈ bb, x ∈ bss.flatten := fun x hx => List.mem_flatten.2 ⟨bb, List.mem_of_getElem? h16, hx⟩
      have hsub : ∀ x ∈ bss.flatten, x ∈ β id := fun x hx => by rw [h10]; exact List.mem_cons_of_mem _ hx
      have hbb2 : g2 ∈ bb := by
        rcases h17 with ⟨h, _⟩ | ⟨_, _, _, _, _, h, _, _, _, h', _⟩
        · cases h
        · cases h; simp [h']
      have hn2 : n2 = xs[j.toNat].length := by
        rcases h17 with ⟨h, _⟩ | ⟨_, _, _, _, _, h, _⟩
        · cases h
        · injection h
      have hul : val.cells.toList.length = b.n := hy.len
      have hus : val.cells.size = b.n := by simpa using hul
      obtain ⟨cur2, e2, h18, h19, h20, h21⟩ := OwL.set h17 rfl (i := i.toNat) (by omega) (us := val.cells.toList) (y := y) hul hy (Rl.notB ho (hsub _ (hbb _ hbb2)))
      have hrun := run_storeAt hti h18 (o := o2 + i.toNat) (v := val) (by rw [hus, hsz, hbn]) (by rw [hbn] at h20; simpa using h20) hy.one
      have hgg : g ≠ g2 := fun e => by
        rw [h10] at h4
        exact (List.nodup_cons.1 h4).1 (e ▸ hbb _ hbb2)
      have hrd : rd (.list a b) xs j = xs[j.toNat] := by simp [rd, hj]
      have h21' : OwL P b (w.setRow g2 (cur2.toList.take (o2 + i.toNat) ++ val.cells.toList ++ cur2.toList.drop (o2 + i.toNat + val.cells.size)).toArray) B (.slice (some ⟨g2, o2, none⟩) n2 c2)
          (tSet xs[j.toNat] i y) bb := by
        rw [hbn] at h21
        simpa [tSet] using h21
      have hnd := h4
      rw [h10] at hnd
      have hnd := List.nodup_cons.1 hnd
      obtain ⟨n', R'⟩ := Rel.turn (gone := []) (σ' := s.sto.puts [(id, some (.sl e (.list a b) .deep (tSet xs j (tSet (rd (.list a b) xs j) i y)) hv none))]) (bs := β id)
        (w' := w.setRow g2 (cur2.toList.take (o2 + i.toNat) ++ val.cells.toList ++ cur2.toList.drop (o2 + i.toNat + val.cells.size)).toArray) (K := fun b => b ≠ g2) Rl ho (by simp) (put_same _ _ _) (by simp)
        (fun j hj _ => put_other _ _ hj) (Fr.setRow w g2 _) (ku ho (hsub _ (hbb _ hbb2))) (Rl.notB ho (hsub _ (hbb _ hbb2))) (fun j hj _ hs b hb' e => Rl.sep id j (Ne.symm hj) (by rw [ho]; simp) hs g2 (hsub _ (hbb _ hbb2)) (e ▸ hb')) h4
        (fun b hb => ⟨by simpa using (h5 b hb).2, .inr ⟨id, .inl rfl, by rw [ho]; simp, hb⟩⟩)
        (fun n' v hv' => by
          rw [hφ] at hv'
          injection hv' with hv'
          subst hv'
          refine .inr ⟨g, o, c, cur, e', bss, by simp [tSet]; omega, ?_, ?_, by omega, h10, by simp [tSet, h11], fun k hk => ?_⟩
          · rw [setRow_other _ _ _ _ hgg]; exact h7
          · simp [tSet]; omega
          · have hk' : k < xs.length := by simpa [tSet] using hk
            by_cases hki : k = j.toNat
            · subst hki
              refine ⟨_, h13, h14, .inr ⟨bb, h16, ?_⟩⟩
              have : (tSet xs j (tSet (rd (.list a b) xs j) i y))[j.toNat] = tSet xs[j.toNat] i y := by simp [tSet, rd, hj]
              rw [this]
              exact h21'
            · obtain ⟨u, k13, k14, k15⟩ := h12 k hk'
              refine ⟨u, k13, k14, ?_⟩
              have e1 : (tSet xs j (tSet (rd (.list a b) xs j) i y))[k] = xs[k] := List.getElem_set_ne (Ne.symm hki) _
              rw [e1]
              rcases k15 with ⟨h, _⟩ | ⟨b3, k16, k17⟩
              · cases h
              · refine .inr ⟨b3, k16, OwL.next k17 n'.fr n'.keep fun x hx => setRow_other w g2 x _ fun e => ?_⟩
                subst e
                have hpw := List.pairwise_flatten.1 (show bss.flatten.Pairwise (· ≠ ·) from hnd.2)
                have hlt1 : k < bss.length := by omega
                have hlt2 : j.toNat < bss.length := by omega
                have q1 := List.getElem?_eq_getElem hlt1
                have q2 := List.getElem?_eq_getElem hlt2
                rw [k16] at q1
                rw [h16] at q2
                injection q1 with q1
                injection q2 with q2
                rcases Nat.lt_or_gt_of_ne hki with hl | hl
                · exact List.pairwise_iff_getElem.1 hpw.2 k j.toNat hlt1 hlt2 hl x (q1 ▸ hx) x (q2 ▸ hbb2) rfl
                · exact List.pairwise_iff_getElem.1 hpw.2 j.toNat k hlt2 hlt1 hl x (q2 ▸ hbb2) x (q1 ▸ hx) rfl)
        (fun e1 t1 m1 xs1 hv1 hole1 h => by cases h; exact ⟨_, _, _, _, _, rfl, Nat.le_refl _, fun h => h⟩)
        (fun e1 a1 b1 xs1 hv1 hole1 e2 xs2 hole2 g' of n3 c3 h h' hφ' k v hk hcell => by
          rw [hφ] at hφ'
          injection hφ' with hφ'
          injection hφ' with q1 q2 q3
          injection q1 with q1
          injection q1 with q1 q4
          subst q1
          rw [World.cell?_of_block (setRow_other w g2 g _ hgg)]
          exact hcell)
      exact ⟨_, _, _, h, hrun, n', R'⟩

theorem flat_cells (Rl : Rel P B new s tmps w φ β) {σr : Sto} (hσ : ∀ id o, σr id = some o → s.sto id = some o) {t : Ty} (hf : t.flat = true) {v : V} {val : Value} {y : t.T} (hv : VR P s.sto φ w B v val)
    (h : asT σr t v = some y) : Rd P t w B val.cells.toList y := by
  obtain ⟨us, rfl, hr⟩ := asT_rel (Rl.obs hσ) hσ hv h
  rw [mk_cells hr]
  exact hr.flat hf

theorem roVal_rel {t : Ty} {v : V} {val : Value} {y : t.T} (hv : VR P s.sto φ w B v val) (h : roVal t v = some y) : Rd P t w B val.cells.toList y := by
  unfold roVal at h
  split at h
  · obtain ⟨e, rfl⟩ := castT_some h
    subst e
    obtain ⟨us, rfl, hr⟩ := hv
    rw [mk_cells hr]
    exact hr
  · split at h
    · injection h with h
      subst h
      cases hv
      exact ⟨none, 0, rfl, Nat.le_refl _, fun h => absurd h (by simp)⟩
    · cases h
  · cases h

theorem putAt_rel {u : Ty} : ∀ {t : Ty} {o : Nat} {us vs : List Value} {x z : t.T} {y : u.T}, Rd P t w B us x → Rd P u w B vs y → putAt u t o x y = some z →
    o + u.n ≤ t.n ∧ Rd P t w B (us.take o ++ vs ++ us.drop (o + vs.length)) z := by
  have leaf : ∀ {t : Ty} {o : Nat} {us vs : List Value} {x z : t.T} {y : u.T}, Rd P t w B us x → Rd P u w B vs y → cond (Nat.beq o 0) (castT (a := u) t y) none = some z →
      o + u.n ≤ t.n ∧ Rd P t w B (us.take o ++ vs ++ us.drop (o + vs.length)) z := by
    intro t o us vs x z y h hy hp
    obtain ⟨h0, hp⟩ := cond_some hp
    have h0 := beq_eq h0
    obtain ⟨e, rfl⟩ := castT_some hp
    subst h0
    subst e
    refine ⟨by omega, ?_⟩
    have hl : us.length = vs.length := by rw [h.len, hy.len]
    have e1 : us.take 0 ++ vs ++ us.drop (0 + vs.length) = vs := by simp [← hl]
    rw [e1]
    exact hy
  intro t
  induction t with
  | pair a b iha ihb =>
    intro o us vs x z y h hy hp
    simp only [putAt] at hp
    cases hb : both (Nat.beq o 0) (tyb u (.pair a b)) with
    | true =>
      rw [hb] at hp
      obtain ⟨hb0, _⟩ := both_true.1 hb
      exact leaf h hy (by rw [hb0]; exact hp)
    | false =>
      rw [hb] at hp
      simp only [cond_false] at hp
      obtain ⟨u1, v1, rfl, h1, h2⟩ := h
      have hl := h1.len
      have hyl := hy.len
      cases hlt : Nat.blt o a.n with
      | true =>
        rw [hlt] at hp
        obtain ⟨z', h3, hp⟩ := ob_some (show ob _ _ = some z from hp)
        injection hp with hp
        subst hp
        obtain ⟨h4, h5⟩ := iha h1 hy h3
        refine ⟨by simp only [Ty.n]; omega, _, v1, ?_, h5, h2⟩
        rw [List.take_append_of_le_length (by omega), List.drop_append_of_le_length (by omega)]
        simp [List.append_assoc]
      | false =>
        rw [hlt] at hp
        obtain ⟨z', h3, hp⟩ := ob_some (show ob _ _ = some z from hp)
        injection hp with hp
        subst hp
        have hge : a.n ≤ o := blt_ge hlt
        obtain ⟨h4, h5⟩ := ihb h2 hy h3
        refine ⟨by simp only [Ty.n]; omega, u1, _, ?_, h1, h5⟩
        have e1 : (u1 ++ v1).take o = u1 ++ v1.take (o - a.n) := by rw [List.take_append, List.take_of_length_le (by omega), hl]
        have e2 : (u1 ++ v1).drop (o + vs.length) = v1.drop (o - a.n + vs.length) := by rw [List.drop_append, List.drop_of_length_le (by omega), List.nil_append, hl]; congr 1; omega
        rw [e1, e2]
        simp [List.append_assoc]
  | _ => intro o us vs x z y h hy hp; exact leaf h hy hp

theorem seg_seg {cur : Array Value} {p off : Nat} {us vs : List Value} (hle : p + us.length ≤ cur.size) (hus : ∀ j, j < us.length → cur[p + j]? = us[j]?) (ho : off + vs.length ≤ us.length) :
    (cur.toList.take p ++ (us.take off ++ vs ++ us.drop (off + vs.length)) ++ cur.toList.drop (p + (us.take off ++ vs ++ us.drop (off + vs.length)).length)).toArray = (cur.toList.take (p + off) ++ vs ++ cur.toList.drop (p + off + vs.length)).toArray := by
  have hl : (us.take off ++ vs ++ us.drop (off + vs.length)).length = us.length := by simp; omega
  apply Array.ext_getElem?
  intro k
  rw [seg_at (by rw [hl]; exact hle) k, seg_at (by omega) k, hl]
  have hin := seg_at (cur := us.toArray) (p := off) (us := vs) (by simpa using ho) (k - p)
  simp only [List.getElem?_toArray] at hin
  by_cases h1 : k < p
  · rw [if_pos h1, if_pos (by omega)]
  · rw [if_neg h1]
    by_cases h2 : k < p + us.length
    · rw [if_pos h2, hin]
      have hk := hus (k - p) (by omega)
      rw [show p + (k - p) = k by omega] at hk
      by_cases h3 : k - p < off
      · have e1 : k < p + off := by omega
        rw [if_pos h3, if_pos e1, hk]
      · have e1 : ¬ k < p + off := by omega
        by_cases h4 : k - p < off + vs.length
        · have e2 : k < p + off + vs.length := by omega
          rw [if_neg h3, if_pos h4, if_neg e1, if_pos e2]
          congr 1
          omega
        · have e2 : ¬ k < p + off + vs.length := by omega
          rw [if_neg h3, if_neg h4, if_neg e1, if_neg e2, hk]
    · have e1 : ¬ k < p + off := by omega
      have e2 : ¬ k < p + off + vs.length := by omega
      rw [if_neg h2, if_neg e1, if_neg e2]

theorem putAt_flat {u : Ty} : ∀ {t : Ty} {o : Nat} {x z : t.T} {y : u.T}, t.flat = true → putAt u t o x y = some z → u.flat = true := by
  intro t
  induction t with
  | pair a b iha ihb =>
    intro o x z y hf hp
    simp only [putAt] at hp
    obtain ⟨f1, f2⟩ := both_true.1 hf
    cases hb : both (Nat.beq o 0) (tyb u (.pair a b)) with
    | true =>
      have := tyb_eq (both_true.1 hb).2
      subst this
      exact hf
    | false =>
      rw [hb] at hp
      simp only [cond_false] at hp
      cases hlt : Nat.blt o a.n with
      | true =>
        rw [hlt] at hp
        obtain ⟨z', h3, _⟩ := ob_some (show ob _ _ = some z from hp)
        exact iha f1 h3
      | false =>
        rw [hlt] at hp
        obtain ⟨z', h3, _⟩ := ob_some (show ob _ _ = some z from hp)
        exact ihb f2 h3
  | _ =>
    intro o x z y hf hp
    obtain ⟨_, hp⟩ := cond_some (show cond _ _ none = some z from hp)
    obtain ⟨e, _⟩ := castT_some hp
    subst e
    exact hf

theorem eff_store_part (Rl : Rel P B new s tmps w φ β) {id : Id} {e : TypeId} {t u : Ty} {xs : List t.T} {hv : Nat} (ho : s.sto id = some (.sl e t .own xs hv none)) {τ : TypeId} {ti : TypeInfo} (hti : P.info? τ = some ti)
    {g o n c : Nat} (hφ : φ id = some (.slice (some ⟨g, o, none⟩) n c)) {i : Int} (h0 : 0 ≤ i) (h1 : i < n) {val : Value} {y : u.T} {z : t.T} {off : Nat} (hy : Rd P u w B val.cells.toList y) (hz : putAt u t off (rd t xs i) y = some z) (hsz : ti.size = u.n) {K : Kont R}
    (h : K (.one .dead) [(id, some (.sl e t .own (tSet xs i z) hv none))] = some r) :
    EffU P B new s tmps w φ β (Instr.storeAt τ (.pointer (some ⟨g, o + i.toNat * t.n + off, none⟩)) val) K r := by
  obtain ⟨v, h2, h3, h4, h5⟩ := Rl.obj id _ ho
  rw [hφ] at h2
  injection h2 with h2
  subst h2
  have h3' : OwL P t w B _ xs (β id) := h3
  have hn : n = xs.length := by
    rcases h3' with ⟨h, _⟩ | ⟨_, _, _, _, _, h, _⟩
    · cases h
    · injection h
  have hb : g ∈ β id := by
    rcases h3' with ⟨h, _⟩ | ⟨_, _, _, _, _, h, _, _, _, h', _⟩
    · cases h
    · cases h; simp [h']
  have hi : i.toNat < xs.length := by omega
  obtain ⟨us, hul, hcell, hrd⟩ : ∃ us : List Value, us.length = t.n ∧ (∀ (cur : Array Value) e', w.heap[g]? = some (.cells cur e' (0, 0)) → ∀ j, j < us.length → cur[o + i.toNat * t.n + j]? = us[j]?) ∧ Rd P t w B us xs[i.toNat] := by
    rcases h3' with ⟨h, _⟩ | ⟨g', o', c', cur, e', hx, k2, k3, k4, k5, k6⟩
    · cases h
    · cases hx
      obtain ⟨us, q1, q2, q3⟩ := k6 i.toNat hi
      refine ⟨us, q1, fun cur' e'' hc j hj => ?_, q3⟩
      rw [k2] at hc
      injection hc with hc
      injection hc with hc
      subst hc
      rw [q2 j hj]
      exact (List.getElem?_eq_getElem hj).symm
  have hrdx : rd t xs i = xs[i.toNat] := by simp [rd, hi]
  rw [hrdx] at hz
  obtain ⟨hle, hr'⟩ := putAt_rel hrd hy hz
  have hvl : val.cells.toList.length = u.n := hy.len
  have hvs : val.cells.size = u.n := by simpa using hvl
  have hul' : (us.take off ++ val.cells.toList ++ us.drop (off + val.cells.toList.length)).length = t.n := hr'.len
  obtain ⟨cur, e', h6, h7, h8, h9⟩ := OwL.set h3' rfl (i := i.toNat) hi (us := us.take off ++ val.cells.toList ++ us.drop (off + val.cells.toList.length)) (y := z) hul' hr' (Rl.notB ho hb)
  rw [seg_seg (by rw [hul]; rw [hul'] at h8; exact h8) (hcell cur e' h6) (by omega)] at h9
  rw [hul'] at h8
  have hrun := run_storeAt hti h6 (o := o + i.toNat * t.n + off) (v := val) (by rw [hvs, hsz]) (by omega) hy.one
  have h9' : OwL P t (w.setRow g (cur.toList.take (o + i.toNat * t.n + off) ++ val.cells.toList ++ cur.toList.drop (o + i.toNat * t.n + off + val.cells.size)).toArray) B (.slice (some ⟨g, o, none⟩) n c) (tSet xs i z) (β id) := by
    simpa [tSet] using h9
  obtain ⟨n', R'⟩ := Rel.turn (gone := []) (σ' := s.sto.puts [(id, some (.sl e t .own (tSet xs i z) hv none))]) (bs := β id)
    (w' := w.setRow g (cur.toList.take (o + i.toNat * t.n + off) ++ val.cells.toList ++ cur.toList.drop (o + i.toNat * t.n + off + val.cells.size)).toArray) (K := fun b => b ≠ g) Rl ho (by simp) (put_same _ _ _) (by simp)
    (fun j hj _ => put_other _ _ hj) (Fr.setRow w g _) (ku ho hb) (Rl.notB ho hb) (fun j hj _ hs b hb' e => Rl.sep id j (Ne.symm hj) (by rw [ho]; simp) hs g hb (e ▸ hb')) h4
    (fun b hb => ⟨by simpa using (h5 b hb).2, .inr ⟨id, .inl rfl, by rw [ho]; simp, hb⟩⟩)
    (fun n v hv => by
      rw [hφ] at hv
      injection hv with hv
      subst hv
      exact h9')
    (fun e1 t1 m1 xs1 hv1 hole1 h => by cases h; exact ⟨_, _, _, _, _, rfl, Nat.le_refl _, fun h => h⟩) (fun e1 a b xs1 hv1 hole1 e' xs' hole' g of n c h => by cases h)
  exact ⟨_, _, _, h, hrun, n', R'⟩

theorem eff_store (hΓ : TabOk P Γ) (Rl : Rel P B new s tmps w φ β) {σr : Sto} (hσ : ∀ id o, σr id = some o → s.sto id = some o) {τ : TypeId} {x v : V} {vx vv : Value} {K : Kont R}
    (hx : VR P s.sto φ w B x vx) (hv : VR P s.sto φ w B v vv) (h : storeF Γ σr τ x v K = some r) : EffU P B new s tmps w φ β (Instr.storeAt τ vx vv) K r := by
  unfold storeF at h
  split at h
  · rename_i d hd
    obtain ⟨ti, z, u, I⟩ := hΓ _ _ hd
    split at h
    · rename_i id off
      split at h
      · rename_i cs us ho hus
        obtain ⟨hb, h⟩ := cond_some h
        obtain ⟨hb1, hb2⟩ := both_true.1 hb
        obtain ⟨g, h1, rfl⟩ := hx
        exact eff_store_box Rl (hσ _ _ ho) I.info h1 (cells_rel hv hus) (by rw [I.size]; exact beq_eq hb1) (ble_le hb2) h
      · rename_i a y us ho hus
        obtain ⟨hb, hK⟩ := cond_some h
        clear h
        obtain ⟨hb1, hb2⟩ := both_true.1 hb
        obtain ⟨hb2, hb3⟩ := both_true.1 hb2
        have hb1 := beq_eq hb1
        have hb2 := tyb_eq hb2
        clear hb
        subst hb1
        obtain ⟨g, h1, rfl⟩ := hx
        exact eff_store_mbox Rl (hσ _ _ ho) I.info h1 (cells_rel hv hus) (by rw [I.size, ← hb2]; exact beq_eq hb3) (beq_eq hb3) hK
      · cases h
    · rename_i id i sz
      obtain ⟨g, o, n, c, h1, h2, h3, h4, rfl⟩ := hx
      unfold storeEl at h
      split at h
      · rename_i e a b xs hv' hole ho
        split at h
        · rename_i id2
          split at h
          · rename_i a' b' ys hv2 ho2
            split at h
            · rename_i hab
              obtain ⟨hc, h⟩ := chk_some h
              obtain ⟨hb, h⟩ := cond_some h
              obtain ⟨hb1, hb2⟩ := both_true.1 hb
              obtain ⟨hb2, hb3⟩ := both_true.1 hb2
              have hb1 := beq_eq hb1
              have hne : id ≠ id2 := fun e => by subst e; rw [beq_self] at hb2; cases hb2
              have hab' := tyb_eq hab
              injection hab' with e1 e2
              subst e1
              subst e2
              have hsz := h4 _ _ _ _ _ _ (hσ _ _ ho)
              simp only [Ty.n] at hsz
              subst hsz
              obtain ⟨h5, A, m, c', rfl⟩ := hv
              have := eff_store_row Rl (hσ _ _ ho) (hσ _ _ ho2) hne I.info (by rw [I.size]; exact hb1) h1 h2 h3 h5 rfl (fun j hj => by subst hj; simpa [ieq] using hc) h
              simpa using this
            · cases h
          · cases h
        · cases h
      · rename_i e t xs hv' ho
        have hsz := h4 _ _ _ _ _ _ (hσ _ _ ho)
        subst hsz
        cases hbn : Nat.beq d.ty.n t.n with
        | true =>
          rw [hbn] at h
          obtain ⟨y, hy, h⟩ := ob_some (show ob _ _ = some r from h)
          have hrd : Rd P t w B vv.cells.toList y := by
            cases hf : t.flat with
            | true => rw [hf] at hy; exact flat_cells Rl hσ hf hv hy
            | false => rw [hf] at hy; exact roVal_rel hv hy
          have := eff_store_own Rl (hσ _ _ ho) I.info h1 h2 h3 hrd (by rw [I.size]; exact beq_eq hbn) h
          simpa using this
        | false =>
          rw [hbn] at h
          obtain ⟨hb1, h⟩ := cond_some (show cond _ _ none = some r from h)
          obtain ⟨y, hy, h⟩ := ob_some h
          obtain ⟨z, hz, h⟩ := ob_some h
          have hfu : d.ty.flat = true := putAt_flat hb1 hz
          exact eff_store_part Rl (hσ _ _ ho) I.info h1 h2 h3 (flat_cells Rl hσ hfu hv hy) hz I.size h
      · cases h
    · rename_i id i sz off _
      obtain ⟨g, o, n, c, h1, h2, h3, h4, rfl⟩ := hx
      unfold storePart at h
      split at h
      · rename_i e t xs hv' ho
        have hsz := h4 _ _ _ _ _ _ (hσ _ _ ho)
        subst hsz
        obtain ⟨hb1, h⟩ := cond_some h
        obtain ⟨y, hy, h⟩ := ob_some h
        obtain ⟨z, hz, h⟩ := ob_some h
        have hfu : d.ty.flat = true := putAt_flat hb1 hz
        exact eff_store_part Rl (hσ _ _ ho) I.info h1 h2 h3 (flat_cells Rl hσ hfu hv hy) hz I.size h
      · cases h
    · rename_i id j i hv'
      split at h
      · rename_i e a b xs hv2 ho
        obtain ⟨hb, h⟩ := cond_some h
        obtain ⟨hb1, hb2⟩ := both_true.1 hb
        obtain ⟨hb1, hb3⟩ := both_true.1 hb1
        obtain ⟨hb2, hb4⟩ := both_true.1 hb2
        have := beq_eq hb1
        subst this
        obtain ⟨y, hy, h⟩ := ob_some h
        obtain ⟨_, _, _, h4⟩ := hx
        obtain ⟨g, o, n, c, g2, o2, n2, c2, h5, h6, h7, h8, h9, h10, rfl⟩ := h4 _ _ _ _ _ (hσ _ _ ho)
        exact eff_store_in Rl (hσ _ _ ho) I.info (by rw [I.size]; exact beq_eq hb2) (beq_eq hb4) h5 h6 h7 h8 h9 h10 (flat_cells Rl hσ hb3 hv hy) h
      · cases h
    · cases h
  · cases h
end
end Go.PV
