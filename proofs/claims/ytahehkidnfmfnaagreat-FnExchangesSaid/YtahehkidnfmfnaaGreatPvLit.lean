/- Literals of slices. -/
import Derived.Test.YtahehkidnfmfnaaGreatPvBuild
set_option linter.all false
namespace Go.PV
open Go

theorem hasId_mem : ∀ {l : List Id} {i : Id}, hasId l i = true ↔ i ∈ l := by
  intro l
  induction l with
  | nil => intro i; simp [hasId]
  | cons j l ih =>
    intro i
    by_cases h : i = j
    · subst h; simp [hasId]
    · have : Nat.beq i j = false := beq_ne h
      simp only [hasId, this, cond_false, ih, List.mem_cons]
      exact ⟨.inr, fun h' => h'.resolve_left h⟩
theorem hasId_not {l : List Id} {i : Id} (h : hasId l i = false) : i ∉ l := fun h' => by rw [hasId_mem.2 h'] at h; cases h

theorem puts_append (σ : Sto) : ∀ (u v : Upd), σ.puts (u ++ v) = (σ.puts u).puts v := by
  intro u
  induction u generalizing σ with
  | nil => intro v; rfl
  | cons p u ih => intro v; obtain ⟨i, o⟩ := p; simp only [List.cons_append, Sto.puts, ih]
theorem puts_none (σ : Sto) : ∀ (ids : List Id) (j : Id), (σ.puts (ids.map fun i => (i, none))) j = if j ∈ ids then none else σ j := by
  intro ids
  induction ids generalizing σ with
  | nil => intro j; simp [Sto.puts]
  | cons i ids ih =>
    intro j
    simp only [List.map_cons, Sto.puts, ih]
    by_cases h : j ∈ ids
    · simp [h]
    · by_cases h' : j = i
      · subst h'; simp [h, Sto.put, beq_self]
      · simp [h, h', Sto.put, beq_ne h']
theorem put_same (σ : Sto) (i : Id) (o : Option PObj) : (σ.put i o) i = o := by simp [Sto.put, beq_self]
theorem put_other (σ : Sto) {i j : Id} (o : Option PObj) (h : j ≠ i) : (σ.put i o) j = σ j := by simp [Sto.put, beq_ne h]

section
variable {P : Program} {Γ : Tab} {B : Nat → Prop} {new : Id → Prop} {s : St} {tmps : Array Value} {w : World} {φ : Hd} {β : Bl} {R : Type} {r : R}

theorem Rel.obs (Rl : Rel P B new s tmps w φ β) {σr : Sto} (hσ : ∀ id o, σr id = some o → s.sto id = some o) : Obs P s.sto σr φ β w B := fun id o h => by
  obtain ⟨v, h1, h2, _⟩ := Rl.obj id o (hσ id o h)
  exact ⟨v, h1, h2⟩

def Seq : Nat → List (Nat × Value) → Prop
  | _, [] => True
  | k, p :: r => p.1 = k ∧ Seq (k + 1) r

theorem fill_seq (size : Nat) : ∀ (ps : List (Nat × Value)) (k : Nat) (cells : Array Value), Seq k ps → (∀ p ∈ ps, p.2.cells.size = size) → (k + ps.length) * size ≤ cells.size →
    ∃ cells' : Array Value, Instr.fill (fun i => some (i * size, size)) cells ps = some cells' ∧
      cells'.toList = cells.toList.take (k * size) ++ ps.flatMap (fun p => p.2.cells.toList) ++ cells.toList.drop ((k + ps.length) * size) := by
  intro ps
  induction ps with
  | nil => intro k cells _ _ _; exact ⟨cells, rfl, by simp⟩
  | cons p ps ih =>
    intro k cells hs hz hle
    obtain ⟨i, v⟩ := p
    obtain ⟨e, hs⟩ := hs
    simp only at e
    subst e
    have hv : v.cells.size = size := hz (i, v) (by simp)
    simp only [List.length_cons] at hle
    have e0 : (i + (ps.length + 1)) * size = i * size + size + ps.length * size := by rw [Nat.add_mul, Nat.add_mul, Nat.one_mul]; omega
    have e1 : (i + 1) * size = i * size + size := by rw [Nat.add_mul, Nat.one_mul]
    have e2 : (i + 1 + ps.length) * size = i * size + size + ps.length * size := by rw [Nat.add_mul, Nat.add_mul, Nat.one_mul]
    have hf := fill_set (i * size) v.cells cells (by omega)
    have hsz := congrArg List.length hf
    rw [Array.length_toList] at hsz
    simp only [List.length_append, List.length_take, List.length_drop, Array.length_toList] at hsz
    obtain ⟨cells', h1, h2⟩ := ih (i + 1) (v.cells.zipIdx.foldl (fun cs (p : Value × Nat) => cs.setIfInBounds (i * size + p.2) p.1) cells) hs (fun p hp => hz p (by simp [hp])) (by omega)
    refine ⟨cells', ?_, ?_⟩
    · simp only [Instr.fill]
      rw [if_neg (by simp [hv]; omega)]
      exact h1
    · rw [h2, hf, e1, e2]
      have hl : (cells.toList.take (i * size) ++ v.cells.toList).length = i * size + size := by simp [hv]; omega
      rw [List.take_append_of_le_length (by rw [hl]; omega), List.take_of_length_le (by rw [hl]; omega)]
      rw [List.drop_append, hl, List.drop_eq_nil_of_le (by rw [hl]; omega), List.nil_append, List.drop_drop]
      simp only [List.length_cons, List.flatMap_cons, e0, List.append_assoc, hv]
      congr 4
      omega

theorem flatMap_at {α β : Type} (f : α → List β) (n : Nat) : ∀ (l : List α), (∀ a ∈ l, (f a).length = n) → ∀ (i j : Nat) (a : α), l[i]? = some a → j < n → (l.flatMap f)[i * n + j]? = (f a)[j]? := by
  intro l
  induction l with
  | nil => intro _ i j a h; simp at h
  | cons b l ih =>
    intro h i j a ha hj
    have hb : (f b).length = n := h b (by simp)
    rw [List.flatMap_cons]
    cases i with
    | zero =>
      simp at ha
      subst ha
      rw [Nat.zero_mul, Nat.zero_add, List.getElem?_append_left (by omega)]
    | succ i =>
      rw [List.getElem?_append_right (by rw [hb, Nat.add_mul]; omega), hb]
      have : (i + 1) * n + j - n = i * n + j := by rw [Nat.add_mul, Nat.one_mul]; omega
      rw [this]
      exact ih (fun a ha => h a (by simp [ha])) i j a (by simpa using ha) hj

theorem flatMap_len {α β : Type} (f : α → List β) (n : Nat) : ∀ (l : List α), (∀ a ∈ l, (f a).length = n) → (l.flatMap f).length = l.length * n := by
  intro l
  induction l with
  | nil => intro _; simp
  | cons b l ih =>
    intro h
    rw [List.flatMap_cons, List.length_append, h b (by simp), ih fun a ha => h a (by simp [ha])]
    simp only [List.length_cons, Nat.add_mul, Nat.one_mul]
    omega

theorem run_buildSlice {τ e : TypeId} {i : TypeInfo} {z : Value} (hu : P.underlying τ = some (.slice e)) (hi : P.info? e = some i) (hz : i.zero = some z) {ps : Array (Nat × Value)} (hs : Seq 0 ps.toList)
    (hc : ∀ p ∈ ps.toList, p.2.cells.size = i.size) (hle : ps.size * i.size ≤ 16777216) :
    ∃ cells : Array Value, (Instr.buildSlice τ ps.size ps).run P w = .ok (.slice (some ⟨w.heap.size, 0, none⟩) ps.size ps.size) (w.alloc (.cells cells e)) ∧
      cells.toList = ps.toList.flatMap (fun p => p.2.cells.toList) := by
  have hfin : ∀ zs : Array Value, ∃ cells : Array Value, Instr.fill (fun k => some (k * i.size, i.size)) ((Array.range (ps.size * i.size)).map (zs[· % zs.size]!)) ps.toList = some cells ∧
      cells.toList = ps.toList.flatMap (fun p => p.2.cells.toList) := by
    intro zs
    obtain ⟨cells, h1, h2⟩ := fill_seq i.size ps.toList 0 ((Array.range (ps.size * i.size)).map (zs[· % zs.size]!)) hs hc (by simp)
    refine ⟨cells, h1, ?_⟩
    rw [h2]
    simp
  have hle' : ¬ (16777216 < ps.size * i.size) := by omega
  by_cases h0 : ps.size * i.size = 0
  · obtain ⟨cells, h1, h2⟩ := hfin #[]
    refine ⟨cells, ?_, h2⟩
    simp [Instr.buildSlice, run_und hu, run_size hi, h0, newRow] 
    simp [h0] at h1
    rw [h1]
    simp
  · obtain ⟨cells, h1, h2⟩ := hfin z.cells
    refine ⟨cells, ?_, h2⟩
    simp [Instr.buildSlice, run_und hu, run_size hi, h0, newRow, zeroValue, run_info hi, hz, hle', h1]

theorem VsR.len {σ : Sto} : ∀ {vs : List V} {us : List Value}, VsR P σ φ w B vs us → us.length = vs.length := by
  intro vs
  induction vs with
  | nil => intro us h; cases us with
    | nil => rfl
    | cons u us => exact False.elim h
  | cons v vs ih => intro us h; cases us with
    | nil => exact False.elim h
    | cons u us => simp [ih h.2]

theorem litRo_rel {σ σr : Sto} (O : Obs P σ σr φ β w B) (hσ : ∀ id o, σr id = some o → σ id = some o) {t : Ty} : ∀ {vs : List V} {us : List Value} {xs : List t.T}, VsR P σ φ w B vs us →
    litRo σr t vs = some xs → us.length = xs.length ∧ ∀ (i : Nat) (h : i < xs.length), ∃ u, us[i]? = some u ∧ u.cells.size = t.n ∧ Rd P t w (Bx σr β B) u.cells.toList xs[i] := by
  intro vs
  induction vs with
  | nil =>
    intro us xs hv h
    cases us with
    | cons u us => exact False.elim hv
    | nil => injection h with h; subst h; exact ⟨rfl, fun i h => absurd h (by simp)⟩
  | cons v vs ih =>
    intro us xs hv h
    cases us with
    | nil => exact False.elim hv
    | cons u us =>
      simp only [litRo] at h
      obtain ⟨x, h1, h⟩ := ob_some h
      obtain ⟨ys, h2, h⟩ := ob_some h
      injection h with h
      subst h
      obtain ⟨hl, hi⟩ := ih hv.2 h2
      refine ⟨by simp [hl], fun i h => ?_⟩
      cases i with
      | zero =>
        obtain ⟨us', e, hr⟩ := asT_rel O hσ hv.1 h1
        have hc := mk_cells hr
        rw [← e] at hc
        refine ⟨u, rfl, ?_, ?_⟩
        · rw [← Array.length_toList, hc, hr.len]
        · rw [hc]; exact hr
      | succ i => simpa using hi i (by simpa using h)

theorem litOwn_rel {σ σr : Sto} {e : TypeId} {t : Ty} : ∀ {vs : List V} {us : List Value} {xs : List (List t.T)} {ids : List Id}, VsR P σ φ w B vs us →
    litOwn σr e t vs = some (xs, ids) → us.length = xs.length ∧ ids.length = xs.length ∧ ids.Nodup ∧
      ∀ (i : Nat) (h : i < xs.length), ∃ u a d, us[i]? = some u ∧ ids[i]? = some d ∧ φ d = some u ∧ u.oneCell' = true ∧ ∃ hv, σr d = some (.sl a t .own xs[i] hv none) := by
  intro vs
  induction vs with
  | nil =>
    intro us xs ids hv h
    cases us with
    | cons u us => exact False.elim hv
    | nil =>
      simp only [litOwn, Option.some.injEq, Prod.mk.injEq] at h
      obtain ⟨rfl, rfl⟩ := h
      exact ⟨rfl, rfl, by simp, fun i h => absurd h (by simp)⟩
  | cons v vs ih =>
    intro us xs ids hv h
    cases us with
    | nil => exact False.elim hv
    | cons u us =>
      unfold litOwn at h
      split at h
      · rename_i e; cases e
      · rename_i id r e1
        injection e1 with e1 e2
        subst e1
        subst e2
        split at h
        · rename_i a t' ys hv' ho
          obtain ⟨x, h1, h⟩ := ob_some h
          obtain ⟨p, h2, h⟩ := ob_some h
          cases hin : hasId p.2 id with
          | true => rw [hin] at h; cases h
          | false =>
            rw [hin] at h
            simp only [cond_false, Option.some.injEq, Prod.mk.injEq] at h
            obtain ⟨rfl, rfl⟩ := h
            obtain ⟨h3, h4, h5, h6⟩ := ih (xs := p.1) (ids := p.2) hv.2 h2
            obtain ⟨e1, rfl⟩ := castT_some h1
            injection e1 with e2 e3
            subst e2
            subst e3
            refine ⟨by simp [h3], by simp [h4], List.nodup_cons.2 ⟨hasId_not hin, h5⟩, fun i h => ?_⟩
            cases i with
            | zero =>
              obtain ⟨h7, A, n, c, rfl⟩ := hv.1
              exact ⟨_, _, id, rfl, rfl, h7, rfl, hv', ho⟩
            | succ i => simpa using h6 i (by simpa using h)
        · cases h
      · cases h

theorem PsR.vs {σ : Sto} : ∀ {ps : List (Nat × V)} {qs : List (Nat × Value)}, PsR P σ φ w B ps qs → VsR P σ φ w B (ps.map (·.2)) (qs.map (·.2)) := by
  intro ps
  induction ps with
  | nil => intro qs h; cases qs with
    | nil => trivial
    | cons q qs => exact False.elim h
  | cons p ps ih => intro qs h; cases qs with
    | nil => exact False.elim h
    | cons q qs => exact ⟨h.2.1, ih h.2.2⟩

theorem cells_at {ps : List (Nat × Value)} {n : Nat} (hn : ∀ p ∈ ps, p.2.cells.size = n) {cells : Array Value} (hc : cells.toList = ps.flatMap (fun p => p.2.cells.toList)) {i : Nat} {u : Value}
    (hi : (ps.map (·.2))[i]? = some u) {j : Nat} (hj : j < u.cells.toList.length) : cells[i * n + j]? = some u.cells.toList[j] := by
  rw [List.getElem?_map] at hi
  obtain ⟨p, hp, rfl⟩ := Option.map_eq_some_iff.1 hi
  have hsz := hn p (List.mem_of_getElem? hp)
  rw [← Array.getElem?_toList, hc, flatMap_at (fun p : Nat × Value => p.2.cells.toList) n ps (fun p hp => by simpa using hn p hp) i j p hp (by rw [← hsz]; simpa using hj)]
  exact List.getElem?_eq_getElem hj

theorem frzU_spec {σ : Sto} : ∀ {ids : List Id} {u : Upd}, frzU σ ids = some u → ids.Nodup → (∀ σ0 : Sto, ∀ j, j ∉ ids → (σ0.puts u) j = σ0 j) ∧
    ∀ i ∈ ids, ∃ e t m xs hv, σ i = some (.sl e t m xs hv none) ∧ ∀ σ0 : Sto, (σ0.puts u) i = some (.sl e t .fro xs hv none) := by
  intro ids
  induction ids with
  | nil => intro u h _; injection h with h; subst h; exact ⟨fun _ _ _ => rfl, by simp⟩
  | cons i ids ih =>
    intro u h hn
    unfold frzU at h
    split at h
    · rename_i e t m xs hv ho
      obtain ⟨u', h1, h2⟩ := ob_some h
      injection h2 with h2
      subst h2
      obtain ⟨h3, h4⟩ := List.nodup_cons.1 hn
      obtain ⟨q1, q2⟩ := ih h1 h4
      refine ⟨fun σ0 j hj => ?_, fun j hj => ?_⟩
      · simp only [List.mem_cons, not_or] at hj
        show ((σ0.put i _).puts u') j = σ0 j
        rw [q1 _ j hj.2, put_other _ _ hj.1]
      · rcases List.mem_cons.1 hj with rfl | hj
        · refine ⟨e, t, m, xs, hv, ho, fun σ0 => ?_⟩
          show ((σ0.put j _).puts u') j = _
          rw [q1 _ j h3, put_same]
        · obtain ⟨e', t', m', xs', hv', h5, h6⟩ := q2 j hj
          exact ⟨e', t', m', xs', hv', h5, fun σ0 => h6 _⟩
    · cases h

theorem nub_spec (l : List Id) : ∀ r : List Id, (nub l r).Nodup ∧ (∀ i, i ∈ nub l r ↔ i ∈ r ∧ i ∉ l) := by
  intro r
  induction r with
  | nil => simp [nub]
  | cons i r ih =>
    cases h1 : hasId r i with
    | true =>
      have h1' := hasId_mem.1 h1
      simp only [nub, h1, cond_true]
      refine ⟨ih.1, fun j => ?_⟩
      rw [ih.2 j]
      constructor
      · rintro ⟨h, h'⟩; exact ⟨List.mem_cons_of_mem _ h, h'⟩
      · rintro ⟨h, h'⟩
        rcases List.mem_cons.1 h with rfl | h
        · exact ⟨h1', h'⟩
        · exact ⟨h, h'⟩
    | false =>
      have h1' := hasId_not h1
      cases h2 : hasId l i with
      | true =>
        have h2' := hasId_mem.1 h2
        simp only [nub, h1, h2, cond_false, cond_true]
        refine ⟨ih.1, fun j => ?_⟩
        rw [ih.2 j]
        constructor
        · rintro ⟨h, h'⟩; exact ⟨List.mem_cons_of_mem _ h, h'⟩
        · rintro ⟨h, h'⟩
          rcases List.mem_cons.1 h with rfl | h
          · exact absurd h2' h'
          · exact ⟨h, h'⟩
      | false =>
        have h2' := hasId_not h2
        simp only [nub, h1, h2, cond_false]
        refine ⟨List.nodup_cons.2 ⟨fun h => h1' ((ih.2 i).1 h).1, ih.1⟩, fun j => ?_⟩
        simp only [List.mem_cons]
        rw [ih.2 j]
        constructor
        · rintro (rfl | ⟨h, h'⟩)
          · exact ⟨.inl rfl, h2'⟩
          · exact ⟨.inr h, h'⟩
        · rintro ⟨rfl | h, h'⟩
          · exact .inl rfl
          · exact .inr ⟨h, h'⟩

def Bf (ids : List Id) (β : Bl) (B : Nat → Prop) : Nat → Prop := fun b => B b ∨ ∃ i ∈ ids, b ∈ β i

theorem only_some {σ : Sto} {l : List Id} {i : Id} {o : PObj} (h : (σ.only l) i = some o) : σ i = some o ∧ i ∈ l := by
  unfold Sto.only at h
  obtain ⟨h1, h2⟩ := cond_some h
  exact ⟨h2, hasId_mem.1 h1⟩

theorem Bx_only {σ : Sto} {l : List Id} {b : Nat} (h : Bx (σ.only l) β B b) : Bf l β B b := by
  rcases h with h | ⟨i, h1, h2⟩
  · exact .inl h
  · obtain ⟨o, ho⟩ := Option.ne_none_iff_exists'.1 h1
    exact .inr ⟨i, (only_some ho).2, h2⟩

theorem Rel.freeze (Rl : Rel P B new s tmps w φ β) {σr : Sto} (hσ : ∀ id o, σr id = some o → s.sto id = some o) {ids : List Id} {u : Upd} (hn : ids.Nodup) (h : frzU σr ids = some u) :
    (Nx s.sto φ w B (s.sto.puts u) φ w (Bf ids β B) ∧ Gr s.sto w B β (s.sto.puts u) w (Bf ids β B) (fun i => if i ∈ ids then [] else β i)) ∧ Rel P (Bf ids β B) new ⟨s.env, s.sto.puts u⟩ tmps w φ (fun i => if i ∈ ids then [] else β i) := by
  obtain ⟨h1, h2⟩ := frzU_spec h hn
  have hst : ∀ i ∈ ids, ∃ e t m xs hv, s.sto i = some (.sl e t m xs hv none) ∧ (s.sto.puts u) i = some (.sl e t .fro xs hv none) := fun i hi => by
    obtain ⟨e, t, m, xs, hv, h3, h4⟩ := h2 i hi
    exact ⟨e, t, m, xs, hv, hσ _ _ h3, h4 _⟩
  refine Rel.gen (T := fun j => j ∈ ids) (K := fun _ => True) Rl (fun j hj => ⟨h1 _ j hj, rfl, by simp [hj]⟩) (fun _ _ h => h) (Fr.refl _ _) (fun _ _ => trivial) (fun b hb => hb.imp _root_.id fun ⟨i, hi, h⟩ => .inr ⟨i, by obtain ⟨e, t, m, xs, hv, h3, _⟩ := hst i hi; rw [h3]; simp, h⟩) (fun _ _ => trivial) (fun _ _ _ _ _ => trivial) (fun _ h => .inl h)
    (fun b hb => ?_) (fun j hj hs b hb hB => ?_) (fun j o hj ho => ?_) (fun i j _ hi hj _ _ b hb => ?_) (fun j hj _ e t m xs hv hole hs => ?_) (fun i e a b xs hv hole e' xs' hole' g o n c hi hs => ?_) Rl.new
  · rcases hb with hb | ⟨i, hi, hb⟩
    · exact Rl.low b hb
    · obtain ⟨e, t, m, xs, hv, h3, _⟩ := hst i hi
      obtain ⟨_, _, _, _, h4⟩ := Rl.obj i _ h3
      exact (h4 b hb).2
  · obtain ⟨oj, hoj⟩ := Option.ne_none_iff_exists'.1 hs
    rcases hB with hB | ⟨i, hi, hbi⟩
    · obtain ⟨_, _, _, _, h4⟩ := Rl.obj j _ hoj
      exact (h4 b hb).1 hB
    · obtain ⟨e, t, m, xs, hv, h3, _⟩ := hst i hi
      exact Rl.sep i j (fun e => hj (e ▸ hi)) (by rw [h3]; simp) hs b hbi hb
  · obtain ⟨e, t, m, xs, hv, h3, h4⟩ := hst j hj
    rw [h4] at ho
    injection ho with ho
    subst ho
    refine ⟨fun n => ?_, by simp [hj], fun b hb => by simp [hj] at hb⟩
    obtain ⟨v, h5, h6, _⟩ := Rl.obj j _ h3
    refine ⟨v, h5, ?_, by simp [hj]⟩
    exact Ow.rd h6 0 (fun _ h => .inl h) fun b hb => .inr ⟨j, hj, hb⟩
  · simp [hi] at hb
  · obtain ⟨e', t', m', xs', hv', h3, h4⟩ := hst j hj
    rw [h4] at hs
    injection hs with hs
    cases hs
    exact ⟨_, _, _, _, _, h3, Nat.le_refl _, fun h => by cases h⟩
  · obtain ⟨e1, t1, m1, xs1, hv1, h3, h4⟩ := hst i hi
    rw [h4] at hs
    injection hs with hs
    cases hs

theorem eff_lit (hΓ : TabOk P Γ) {id : Id} (Rl : Rel P B new s tmps w φ β) (hid : new id) {σr : Sto} (hσ : ∀ id o, σr id = some o → s.sto id = some o) {τ : TypeId} {len : Nat}
    {parts : List (Nat × V)} {vparts : Array (Nat × Value)} {K : Kont R} (hp : PsR P s.sto φ w B parts vparts.toList) (hs : Seq 0 vparts.toList) (h : litF Γ σr (some id) τ len parts K = some r) :
    Eff P B (fun i => new i ∧ i ≠ id) s tmps w φ β (Instr.buildSlice τ len vparts) K r := by
  unfold litF at h
  split at h
  · rename_i id' e t fs el e1 hd
    injection e1 with e1
    subst e1
    replace h := cond_some h
    obtain ⟨hb, h⟩ := h
    obtain ⟨hb1, hb2⟩ := both_true.1 hb
    have hb1 := beq_eq hb1
    have hb2 := ble_le hb2
    obtain ⟨i, z, u, I⟩ := hΓ _ _ hd
    obtain ⟨hu, _, d', hd', ht⟩ := I.list e t rfl
    obtain ⟨i', z', u', I'⟩ := hΓ _ _ hd'
    have hvs := hp.vs
    have hlen : vparts.size = len := by
      have := hvs.len
      simp at this
      omega
    subst hlen
    have hun : P.underlying τ = some (.slice e) := by rw [I.under, hu]
    have hsz : i'.size = t.n := by rw [I'.size, ht]
    have hbound : vparts.size * i'.size ≤ 16777216 := by
      have := I'.cells
      rw [← I'.size] at this
      have := Nat.mul_le_mul hb2 this
      omega
    have hro : ∀ {xs : List t.T} {B1 : Nat → Prop} {u : Upd} {β1 : Bl}, (Nx s.sto φ w B (s.sto.puts u) φ w B1 ∧ Gr s.sto w B β (s.sto.puts u) w B1 β1) → Rel P B1 new ⟨s.env, s.sto.puts u⟩ tmps w φ β1 →
        (vparts.toList.map (·.2)).length = xs.length → (∀ (i : Nat) (h : i < xs.length), ∃ u, (vparts.toList.map (·.2))[i]? = some u ∧ u.cells.size = t.n ∧ Rd P t w B1 u.cells.toList xs[i]) →
        K (.one (.ref id)) (u ++ [(id, some (.sl e t .own xs 0 none))]) = some r →
        Eff P B (fun i => new i ∧ i ≠ id) s tmps w φ β (Instr.buildSlice τ vparts.size vparts) K r := by
      intro xs B1 u β1 n1 R1 h1 h2 hk
      have hall : ∀ p ∈ vparts.toList, p.2.cells.size = i'.size := by
        intro p hp
        obtain ⟨k, hk, rfl⟩ := List.getElem_of_mem hp
        obtain ⟨u, h3, h4, _⟩ := h2 k (by rw [← h1]; simpa using hk)
        rw [List.getElem?_map, List.getElem?_eq_getElem hk] at h3
        injection h3 with h3
        have h3 : vparts.toList[k].2 = u := h3
        rw [h3, h4, hsz]
      obtain ⟨cells, hrun, hcells⟩ := run_buildSlice (w := w) hun I'.info I'.zero hs hall hbound
      have hxl : vparts.size = xs.length := by simpa using h1
      obtain ⟨n', R'⟩ := Rel.fresh (o := .sl e t .own xs 0 none) (hdr := .slice (some ⟨w.heap.size, 0, none⟩) vparts.size vparts.size) (ob := .cells cells e) R1 hid (w0 := w) ⟨rfl, rfl, rfl, rfl, Nat.le_refl _⟩
        (fun n' => by
          refine .inr ⟨w.heap.size, 0, vparts.size, cells, e, by rw [hxl], heap_new w _, by omega, ?_, rfl, fun k hk => ?_⟩
          · have : cells.toList.length = vparts.toList.length * i'.size := by rw [hcells]; exact flatMap_len (fun p : Nat × Value => p.2.cells.toList) i'.size _ (fun p hp => by simpa using hall p hp)
            simp at this
            rw [hsz] at this
            omega
          · obtain ⟨u, h3, h4, h5⟩ := h2 k hk
            refine ⟨u.cells.toList, by simpa using h4, fun j hj => ?_, (h5.fr n'.fr).mono n'.keep⟩
            rw [Nat.zero_add, ← hsz]
            exact cells_at hall hcells h3 hj)
      have e1 : s.sto.puts (u ++ [(id, some (.sl e t .own xs 0 none))]) = (s.sto.puts u).puts [(id, some (.sl e t .own xs 0 none))] := puts_append _ _ _
      refine ⟨_, _, _, _, B1, setH φ id _, setH β1 id [w.heap.size], hk, hrun, ⟨setH_same _ _ _, _, _, _, rfl⟩, ?_, ?_⟩
      · rw [e1]
        exact ⟨n1.1.trans n'.1, n1.2.trans n'.2⟩
      · rw [e1]
        exact R'
    have n0 : Nx s.sto φ w B (s.sto.puts []) φ w B ∧ Gr s.sto w B β (s.sto.puts []) w B β := ⟨⟨fun _ _ h => h, fun _ _ e t m xs hv hole h => ⟨e, m, xs, hv, hole, h, Nat.le_refl _, fun h => h⟩, fun _ h => h, Fr.refl _ _, fun _ _ _ _ _ _ _ _ _ _ _ _ _ _ _ _ _ _ _ _ h => h⟩, Gr.refl _ _ _ _⟩
    split at h
    · rename_i a b _
      split at h
      · rename_i xs ids hl
        obtain ⟨h1, h2, h3, h4⟩ := litOwn_rel hvs hl
        have hall : ∀ p ∈ vparts.toList, p.2.cells.size = i'.size := by
          intro p hp
          obtain ⟨k, hk, rfl⟩ := List.getElem_of_mem hp
          obtain ⟨u, a', d, h5, _, _, h6, _⟩ := h4 k (by rw [← h1]; simpa using hk)
          rw [List.getElem?_map, List.getElem?_eq_getElem hk] at h5
          injection h5 with h5
          have h5 : vparts.toList[k].2 = u := h5
          rw [h5, one_cells h6, hsz]
          rfl
        obtain ⟨cells, hrun, hcells⟩ := run_buildSlice (w := w) hun I'.info I'.zero hs hall hbound
        have hxl : vparts.size = xs.length := by simpa using h1
        have hidn : id ∉ ids := fun hm => by
          obtain ⟨k, hk, e2⟩ := List.getElem_of_mem hm
          obtain ⟨u, a', d, h5, h6, h7, h8, hv, h9⟩ := h4 k (by omega)
          rw [List.getElem?_eq_getElem hk, e2] at h6
          injection h6 with h6
          subst h6
          have := hσ _ _ h9
          rw [Rl.free hid] at this
          cases this
        have hst : ∀ d ∈ ids, s.sto d ≠ none := fun d hm => by
          obtain ⟨k, hk, e2⟩ := List.getElem_of_mem hm
          obtain ⟨u, a', d', h5, h6, h7, h8, hv, h9⟩ := h4 k (by omega)
          rw [List.getElem?_eq_getElem hk, e2] at h6
          injection h6 with h6
          subst h6
          rw [hσ _ _ h9]
          simp
        have hblk : ∀ d, s.sto d ≠ none → (β d).Nodup ∧ ∀ b ∈ β d, b < w.heap.size := fun d hd => by
          obtain ⟨o, ho⟩ := Option.ne_none_iff_exists'.1 hd
          obtain ⟨_, _, _, h5, h6⟩ := Rl.obj d o ho
          exact ⟨h5, fun b hb => (h6 b hb).2⟩
        obtain ⟨n', R'⟩ := Rel.make (σ' := s.sto.puts ((ids.map fun i => (i, none)) ++ [(id, some (.sl e (.list a b) .deep xs 0 none))])) (o := .sl e (.list a b) .deep xs 0 none)
          (hdr := .slice (some ⟨w.heap.size, 0, none⟩) vparts.size vparts.size) (bs := w.heap.size :: (ids.map β).flatten) (w' := w.alloc (.cells cells e)) (K := fun _ => True) (gone := ids) Rl hid
          (by rw [puts_append]; exact put_same _ _ _)
          (fun j hj hm => by rw [puts_append]; simp only [Sto.puts]; rw [put_other _ _ hj, puts_none, if_pos hm])
          (fun j hj hm => by rw [puts_append]; simp only [Sto.puts]; rw [put_other _ _ hj, puts_none, if_neg hm])
          (Fr.alloc w _) (fun _ _ => trivial) (fun _ _ => trivial) (fun _ _ _ _ _ => trivial)
          (by
            refine List.nodup_cons.2 ⟨fun hm => ?_, ?_⟩
            · obtain ⟨l, hl, hb⟩ := List.mem_flatten.1 hm
              obtain ⟨d, hd, rfl⟩ := List.mem_map.1 hl
              exact Nat.lt_irrefl _ ((hblk d (hst d hd)).2 _ hb)
            · have hall : ∀ l : List Id, l.Nodup → (∀ d ∈ l, s.sto d ≠ none) → ((l.map β).flatten).Nodup := by
                intro l
                induction l with
                | nil => intro _ _; simp
                | cons d l ih =>
                  intro hn hs
                  simp only [List.map_cons, List.flatten_cons]
                  rw [List.nodup_append]
                  refine ⟨(hblk d (hs d (by simp))).1, ih (List.nodup_cons.1 hn).2 fun d hd => hs d (by simp [hd]), fun x hx y hy e => ?_⟩
                  subst e
                  obtain ⟨l', hl', hb⟩ := List.mem_flatten.1 hy
                  obtain ⟨d', hd', rfl⟩ := List.mem_map.1 hl'
                  exact Rl.sep d d' (fun e => (List.nodup_cons.1 hn).1 (e ▸ hd')) (hs d (by simp)) (hs d' (by simp [hd'])) x hx hb
              exact hall ids h3 hst)
          (fun b hb => by
            rcases List.mem_cons.1 hb with rfl | hb
            · exact ⟨by simp, .inl (Nat.le_refl _)⟩
            · obtain ⟨l, hl, hb⟩ := List.mem_flatten.1 hb
              obtain ⟨d, hd, rfl⟩ := List.mem_map.1 hl
              exact ⟨Nat.lt_of_lt_of_le ((hblk d (hst d hd)).2 b hb) (Fr.alloc w (.cells cells e)).size, .inr ⟨d, hd, hst d hd, hb⟩⟩)
          (fun n' => by
            have hcs : cells.size = vparts.size * i'.size := by
              have : cells.toList.length = vparts.toList.length * i'.size := by rw [hcells]; exact flatMap_len (fun p : Nat × Value => p.2.cells.toList) i'.size _ (fun p hp => by simpa using hall p hp)
              simpa using this
            refine .inr ⟨w.heap.size, 0, vparts.size, cells, e, ids.map β, by rw [hxl], heap_new w _, by omega, ?_, rfl, by simp [h2], fun k hk => ?_⟩
            · rw [hcs, hsz]
              simp [Ty.n]
            · obtain ⟨u, a', d, h5, h6, h7, h8, hv, h9⟩ := h4 k hk
              refine ⟨u, ?_, h8, .inr ⟨β d, by simp [h6], ?_⟩⟩
              · have := cells_at hall hcells h5 (j := 0) (by rw [one_cells h8]; simp)
                simp only [one_cells h8, hsz] at this
                simpa [Ty.n] using this
              · obtain ⟨v, h10, h11, _, h12⟩ := Rl.obj d _ (hσ _ _ h9)
                rw [h7] at h10
                injection h10 with h10
                subst h10
                exact OwL.next h11 n'.fr n'.keep fun x hx => (Fr.alloc w _).block x (h12 x hx).2 trivial)
        exact ⟨_, _, _, _, _, _, _, h, hrun, ⟨setH_same _ _ _, _, _, _, rfl⟩, n', R'⟩
      · obtain ⟨u1, hu1, h⟩ := ob_some h
        obtain ⟨xs, hl, h⟩ := ob_some h
        obtain ⟨n1, R1⟩ := Rl.freeze hσ (nub_spec _ _).1 hu1
        have hσ1 : ∀ i o, (σr.only (nub [] (valIds (parts.map (·.2))))) i = some o → s.sto i = some o := fun i o ho => hσ _ _ (only_some ho).1
        obtain ⟨h1, h2⟩ := litRo_rel (Rl.obs hσ1) hσ1 hvs hl
        exact hro n1 R1 h1 (fun i hi => by
          obtain ⟨u, h3, h4, h5⟩ := h2 i hi
          exact ⟨u, h3, h4, h5.mono fun b hb => Bx_only hb⟩) h
    · cases ha : t.flat with
      | true =>
        rw [ha] at h
        obtain ⟨xs, hl, h⟩ := ob_some h
        obtain ⟨h1, h2⟩ := litRo_rel (Rl.obs hσ) hσ hvs hl
        exact hro n0 Rl h1 (fun i hi => by
          obtain ⟨u, h3, h4, h5⟩ := h2 i hi
          exact ⟨u, h3, h4, h5.flat ha⟩) h
      | false =>
        rw [ha] at h
        obtain ⟨xs, hl, h⟩ := ob_some h
        have hσ1 : ∀ i o, (fun _ => none : Sto) i = some o → s.sto i = some o := fun i o ho => by cases ho
        obtain ⟨h1, h2⟩ := litRo_rel (Rl.obs hσ1) hσ1 hvs hl
        exact hro n0 Rl h1 (fun i hi => by
          obtain ⟨u, h3, h4, h5⟩ := h2 i hi
          exact ⟨u, h3, h4, h5.mono fun b hb => hb.elim _root_.id fun ⟨_, q, _⟩ => absurd rfl q⟩) h
  · cases h
end
end Go.PV
