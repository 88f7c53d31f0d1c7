/- slices.SortFunc on rows of numbers as a contract, out of the kit's own contract of it. -/
import Derived.Test.YtahehkidnfmfnaaGreatPvCall
import Derived.Shelf.SlSortCmp.Kit1
set_option linter.all false
namespace Go.PV
open Go Go.Sort Go.Proofs

def cmpV (fc : List Int → List Int → Option Int) (a b : List Int) : Int := (fc a b).getD 0
structure Ordered (fc : List Int → List Int → Option Int) (xs : List (List Int)) : Prop where
  small : xs.length < 4611686018427387904
  all : ∀ a ∈ xs, ∀ b ∈ xs, ∃ c, fc a b = some c
  irrefl : ∀ a ∈ xs, ¬ cmpV fc a a < 0
  trans : ∀ a ∈ xs, ∀ b ∈ xs, ∀ c ∈ xs, cmpV fc a b < 0 → cmpV fc b c < 0 → cmpV fc a c < 0
  ntrans : ∀ a ∈ xs, ∀ b ∈ xs, ∀ c ∈ xs, ¬ cmpV fc a b < 0 → ¬ cmpV fc b c < 0 → ¬ cmpV fc a c < 0
  anti : ∀ a ∈ xs, ∀ b ∈ xs, ¬ cmpV fc a b < 0 → ¬ cmpV fc b a < 0 → a = b
def Srted (fc : List Int → List Int → Option Int) (xs ys : List (List Int)) : Prop := Ordered fc xs ∧ ys.Perm xs ∧ ys.Pairwise fun a b => ¬ cmpV fc b a < 0

theorem srt_uniq {R : List Int → List Int → Prop} : ∀ {ys zs : List (List Int)}, ys.Perm zs → ys.Pairwise R → zs.Pairwise R → (∀ a ∈ ys, ∀ b ∈ ys, R a b → R b a → a = b) → ys = zs := by
  intro ys
  induction ys with
  | nil => intro zs hp _ _ _; exact (List.nil_perm.1 hp).symm
  | cons a ys ih =>
    intro zs hp hy hz ha
    cases zs with
    | nil => exact absurd (List.perm_nil.1 hp) (by simp)
    | cons b zs =>
      obtain ⟨hy1, hy2⟩ := List.pairwise_cons.1 hy
      obtain ⟨hz1, hz2⟩ := List.pairwise_cons.1 hz
      have e : a = b := by
        have h1 : a ∈ b :: zs := hp.mem_iff.1 (List.mem_cons_self ..)
        have h2 : b ∈ a :: ys := hp.mem_iff.2 (List.mem_cons_self ..)
        rcases List.mem_cons.1 h1 with h1 | h1
        · exact h1
        · rcases List.mem_cons.1 h2 with h2 | h2
          · exact h2.symm
          · exact ha a (List.mem_cons_self ..) b (List.mem_cons_of_mem _ h2) (hy1 b h2) (hz1 a h1)
      subst e
      rw [ih (List.Perm.cons_inv hp) hy2 hz2 fun x hx y hy => ha x (List.mem_cons_of_mem _ hx) y (List.mem_cons_of_mem _ hy)]
theorem Srted.uniq {fc : List Int → List Int → Option Int} {xs ys zs : List (List Int)} (h : Srted fc xs ys) (h' : Srted fc xs zs) : ys = zs :=
  srt_uniq (h.2.1.trans h'.2.1.symm) h.2.2 h'.2.2 fun a ha b hb h1 h2 => h.1.anti a (h.2.1.mem_iff.1 ha) b (h.2.1.mem_iff.1 hb) h2 h1
noncomputable def sortF (fc : List Int → List Int → Option Int) (xs : List (List Int)) : Option (Unit × (List (List Int) × Unit)) :=
  open Classical in if h : ∃ ys, Srted fc xs ys then some ((), (Classical.choose h, ())) else none
theorem sortF_eq {fc : List Int → List Int → Option Int} {xs ys : List (List Int)} (h : Srted fc xs ys) : sortF fc xs = some ((), (ys, ())) := by
  unfold sortF
  have hex : ∃ ys, Srted fc xs ys := ⟨ys, h⟩
  rw [dif_pos hex, (Classical.choose_spec hex).uniq h]
theorem sortF_some {fc : List Int → List Int → Option Int} {xs : List (List Int)} {y : Unit × (List (List Int) × Unit)} (h : sortF fc xs = some y) : Srted fc xs y.2.1 := by
  unfold sortF at h
  split at h
  · rename_i hex
    injection h with h
    subst h
    exact Classical.choose_spec hex
  · cases h

def SortsAt (P : Program) (f : FuncId) : Prop := ∀ (k : Nat) (enc : Fin (k + 1) → Value) (cf : Fin (k + 1) → Fin (k + 1) → Int) (g : Nat) (blk off cap : Nat) (d : Array (Fin (k + 1))) (w : World),
  OneCell enc → SWO (ltOf cf) → (∀ args w, (callFunc g args).run P w = .ok (.enter g args) w) → CmpLays1 P g #[] enc cf blk off d.size w → Holds enc w blk off d → blk < w.heap.size → d.size < 4611686018427387904 →
  Calls P f #[.slice (some ⟨blk, off, none⟩) d.size cap, .func (.func g) #[] #[]] w fun e w' => e = .returned (.tuple #[]) ∧ ∃ d' n os, PermIn 0 d.size d d' ∧ SortedIn (ltOf cf) 0 d.size d' ∧ w' = sortWorld enc w blk off n d' os
def SortsNone (P : Program) (f : FuncId) : Prop := ∀ (p : Option Addr) (cap : Nat) (fv : Value) (w : World), Calls P f #[.slice p 0 cap, fv] w fun e w' => e = .returned (.tuple #[]) ∧ w' = w

section
variable {P : Program} {α : Type} [Inhabited α]
theorem sw_heap {enc : α → Value} {w : World} {blk off m : Nat} {d : Array α} {os : Array Obj} {b : Nat} (hb : b < w.heap.size) (hne : b ≠ blk) : (sortWorld enc w blk off m d os).heap[b]? = w.heap[b]? := by
  show ((w.heap.modify blk (onCells (putCells enc off d))) ++ os)[b]? = _
  rw [Array.getElem?_append_left (by simpa using hb), Array.getElem?_modify, if_neg (fun e => hne e.symm)]
theorem sw_row {enc : α → Value} {w : World} {blk off m : Nat} {d : Array α} {os : Array Obj} {cur : Array Value} {e : TypeId} {fr : Nat × Nat} (hc : w.heap[blk]? = some (.cells cur e fr)) : (sortWorld enc w blk off m d os).heap[blk]? = some (.cells (putCells enc off d cur) e fr) := by
  have hb : blk < w.heap.size := (Array.getElem?_eq_some_iff.1 hc).1
  show ((w.heap.modify blk (onCells (putCells enc off d))) ++ os)[blk]? = _
  rw [Array.getElem?_append_left (by simpa using hb), Array.getElem?_modify, if_pos rfl, hc]
  rfl
theorem sw_size {enc : α → Value} {w : World} {blk off m : Nat} {d : Array α} {os : Array Obj} : w.heap.size ≤ (sortWorld enc w blk off m d os).heap.size := by
  show w.heap.size ≤ ((w.heap.modify blk (onCells (putCells enc off d))) ++ os).size
  simp
theorem sw_fr {enc : α → Value} {w : World} {blk off m : Nat} {d : Array α} {os : Array Obj} : Fr w (sortWorld enc w blk off m d os) (fun b => b ≠ blk) :=
  ⟨rfl, rfl, rfl, Nat.le_add_right _ _, sw_size, fun b hb hne => sw_heap hb hne⟩
theorem grown_of {w w' : World} (h : Fr w w' fun _ => True) : ∃ q os, w' = grow (w.drewN q) os := by
  refine ⟨w'.drawn - w.drawn, w'.heap.extract w.heap.size w'.heap.size, ?_⟩
  obtain ⟨h1, h2, h3, h4, h5, h6⟩ := h
  have hh : w.heap ++ w'.heap.extract w.heap.size w'.heap.size = w'.heap := by
    refine Array.ext_getElem? fun i => ?_
    by_cases hi : i < w.heap.size
    · rw [Array.getElem?_append_left hi, h6 i hi trivial]
    · rw [Array.getElem?_append_right (by omega)]
      by_cases hi2 : i < w'.heap.size
      · rw [Array.getElem?_extract, if_pos (by omega)]
        congr 1
        omega
      · rw [Array.getElem?_eq_none (by simp; omega), Array.getElem?_eq_none (by omega)]
  show w' = { heap := w.heap ++ w'.heap.extract w.heap.size w'.heap.size, tape := w.tape, drawn := w.drawn + (w'.drawn - w.drawn), os := w.os, output := w.output }
  rw [hh, ← h1, ← h2, ← h3, show w.drawn + (w'.drawn - w.drawn) = w'.drawn by omega]
end

theorem fin_all (k : Nat) : (Array.ofFn (n := k + 1) fun i : Fin (k + 1) => i).toList = List.finRange (k + 1) := by
  rw [Array.toList_ofFn]
  rfl
theorem sortRows_pc {P : Program} {f g : FuncId} {E e : TypeId} {o : Bool} {fc : List Int → List Int → Option ((Int × Unit) × Unit)} (hs : SortsAt P f) (hn : SortsNone P f) (ef : Ent P f)
    (hc : PC P g ⟨[(.ro, .list e (.int .i64)), (.ro, .list e (.int .i64))], [(o, .int .i64)], fun x => fc x.1 x.2.1⟩) :
    PC P f ⟨[(.mut, .list E (.list e (.int .i64))), (.own, .kclo g .unit)], [], fun x => sortF (fun a b => (fc a b).map fun z => z.1.1) x.1⟩ := by
  refine ⟨ef, ?_⟩
  intro w B vals x bs y ha _ hnd hbs hB hf
  obtain ⟨xs, hcu, hxu⟩ := x
  change List (List Int) at xs
  change Unit × (List (List Int) × Unit) at y
  replace hf : sortF (fun a b => (fc a b).map fun z => z.1.1) xs = some y := hf
  match vals, ha with
  | [], ha => exact ha.elim
  | [_], ha => obtain ⟨_, _, _, _, _, _, h⟩ := ha; exact h.elim
  | _ :: _ :: _ :: _, ha => obtain ⟨_, _, _, _, _, _, _, _, _, _, _, _, h⟩ := ha; exact h.elim
  | [v, fv], ha =>
    obtain ⟨us, b1, b2, rfl, hb12, h1, us2, b3, b4, rfl, hb34, h2, hb4⟩ := ha
    rcases h1 with ⟨h1, _⟩ | ⟨_, _, h1⟩
    · cases h1
    rcases h2 with ⟨h2, _⟩ | ⟨_, _, h2⟩
    · cases h2
    obtain ⟨v0, rfl, ⟨A0, n0, c0, hv0⟩, h1⟩ := h1
    obtain ⟨vs, rfl, hvs, hb3⟩ := h2
    have hvs : vs = [] := hvs
    have hb4 : b4 = [] := hb4
    subst hvs hb3 hb4
    rw [List.append_nil] at hb34
    subst hb34
    rw [List.append_nil] at hb12
    subst hb12
    have h1 : OwD P (.int .i64) w B v0 xs none bs := h1
    have hsr : Srted (fun a b => (fc a b).map fun z => z.1.1) xs y.2.1 := sortF_some hf
    -- nothing to sort
    have none_case : xs.length = 0 → (∃ p c, v0 = .slice p 0 c) → Calls P f #[v0, .func (.func g) #[] #[]] w fun ed w' => ∃ us B' rbs mbs, ed = .returned (retV us) ∧ ResR P w' B' [] us y.1 rbs ∧ MutR P w' B' [(.mut, .list E (.list e (.int .i64))), (.own, .kclo g .unit)] [v0, .func (.func g) #[] #[]] y.2 mbs ∧ Fr w w' (fun b => b ∉ bs) ∧ (rbs ++ mbs).Nodup ∧
        (∀ b ∈ rbs ++ mbs, ¬ B' b ∧ b < w'.heap.size ∧ (w.heap.size ≤ b ∨ b ∈ bs)) ∧ (∀ b, B b → B' b) ∧ (∀ b, B' b → b < w'.heap.size ∧ (B b ∨ w.heap.size ≤ b ∨ b ∈ bs)) := by
      intro h0 ⟨p, c, hv⟩
      have hx : xs = [] := List.eq_nil_of_length_eq_zero h0
      have hy : y.2.1 = [] := by
        have := hsr.2.1
        rw [hx] at this
        exact List.perm_nil.1 this
      refine Calls.mono (by rw [hv]; exact hn p c _ w) ?_
      rintro e' w' ⟨rfl, rfl⟩
      refine ⟨[], B, [], bs, rfl, rfl, ⟨v0, [v0], bs, [], rfl, rfl, by simp, ⟨v0, rfl, ⟨A0, n0, c0, hv0⟩, ?_⟩, rfl⟩, Fr.refl _ _, by simpa using hnd, fun b hb => ?_, fun b hb => hb, fun b hb => ⟨hB b hb, .inl hb⟩⟩
      · show OwD P (.int .i64) w' B v0 y.2.1 none bs
        rw [hy, ← hx]
        exact h1
      · have hb : b ∈ bs := by simpa using hb
        exact ⟨(hbs b hb).1, (hbs b hb).2, .inr hb⟩
    have key := h1
    rcases h1 with ⟨rfl, hx, hbs0⟩ | ⟨g0, o0, c, cur, e', bss, rfl, q2, q3, q4, q5, q6, q7⟩
    · exact none_case (by rw [hx]; rfl) ⟨none, 0, rfl⟩
    · by_cases h0 : xs.length = 0
      · exact none_case h0 ⟨some ⟨g0, o0, none⟩, c, by rw [h0]⟩
      · clear none_case
        obtain ⟨k, hk⟩ : ∃ k, xs.length = k + 1 := ⟨xs.length - 1, by omega⟩
        have hlt : ∀ i : Fin (k + 1), i.1 < xs.length := fun i => by rw [hk]; exact i.2
        have hrow : ∀ i : Fin (k + 1), ∃ u b, cur[o0 + i.1]? = some u ∧ u.oneCell' = true ∧ bss[i.1]? = some b ∧ OwL P (.int .i64) w B u (xs[i.1]'(hlt i)) b := fun i => by
          obtain ⟨u, r1, r2, r3⟩ := q7 i.1 (hlt i)
          rcases r3 with ⟨h, _⟩ | ⟨b, r3, r4⟩
          · cases h
          · exact ⟨u, b, r1, r2, r3, r4⟩
        let enc : Fin (k + 1) → Value := fun i => Classical.choose (hrow i)
        have henc : ∀ i, ∃ b, cur[o0 + i.1]? = some (enc i) ∧ (enc i).oneCell' = true ∧ bss[i.1]? = some b ∧ OwL P (.int .i64) w B (enc i) (xs[i.1]'(hlt i)) b := fun i => Classical.choose_spec (hrow i)
        clear_value enc
        let cf : Fin (k + 1) → Fin (k + 1) → Int := fun i j => cmpV (fun a b => (fc a b).map fun z => z.1.1) (xs[i.1]'(hlt i)) (xs[j.1]'(hlt j))
        have hmem : ∀ i : Fin (k + 1), xs[i.1]'(hlt i) ∈ xs := fun i => List.getElem_mem _
        have hO := hsr.1
        have hswo : SWO (ltOf cf) := by
          refine ⟨fun i => ?_, fun i j l h1 h2 => ?_, fun i j l h1 h2 => ?_⟩
          · exact decide_eq_false (hO.irrefl _ (hmem i))
          · exact decide_eq_true (hO.trans _ (hmem i) _ (hmem j) _ (hmem l) (of_decide_eq_true h1) (of_decide_eq_true h2))
          · exact decide_eq_false (hO.ntrans _ (hmem i) _ (hmem j) _ (hmem l) (of_decide_eq_false h1) (of_decide_eq_false h2))
        have hg : g0 ∈ bs := by rw [q5]; simp
        have hg0 := hbs g0 hg
        have hflat : ∀ b ∈ bss.flatten, b ∈ bs ∧ b ≠ g0 := fun b hb => by
          rw [q5] at hnd ⊢
          exact ⟨List.mem_cons_of_mem _ hb, fun e => (List.nodup_cons.1 hnd).1 (e ▸ hb)⟩
        let d : Array (Fin (k + 1)) := Array.ofFn fun i => i
        have hds : d.size = k + 1 := by simp [d]
        have hd : ∀ j, (hj : j < k + 1) → d[j]! = ⟨j, hj⟩ := fun j hj => by simp [d, hj]
        have hsz : xs.length = d.size := by rw [hds, hk]
        have hH : Holds enc w g0 o0 d := by
          intro j hj
          have hj' : j < k + 1 := by omega
          obtain ⟨b, r1, _⟩ := henc ⟨j, hj'⟩
          rw [hd j hj']
          refine ⟨by rw [cell_of_heap q2]; exact r1, ?_⟩
          simp [World.frozen?, q2]
        have hB' : ∀ b, (B b ∨ b ∈ bss.flatten) → b < w.heap.size ∧ b ≠ g0 := fun b hb => by
          rcases hb with hb | hb
          · exact ⟨hB b hb, fun e => hg0.1 (e ▸ hb)⟩
          · exact ⟨(hbs b (hflat b hb).1).2, (hflat b hb).2⟩
        have hcmp : CmpLays1 P g #[] enc cf g0 o0 d.size w := by
          intro m os dk hdk i j
          obtain ⟨z, hz⟩ := hO.all _ (hmem i) _ (hmem j)
          obtain ⟨y', hy', hyz⟩ := Option.map_eq_some_iff.1 hz
          obtain ⟨bi, _, _, i3, i4⟩ := henc i
          obtain ⟨bj, _, _, j3, j4⟩ := henc j
          have hfr : Fr w (sortWorld enc w g0 o0 m dk os) (fun b => B b ∨ b ∈ bss.flatten) := sw_fr.mono fun b hb => (hB' b hb).2
          have rdi : Rd P (.list e (.int .i64)) (sortWorld enc w g0 o0 m dk os) (fun b => B b ∨ b ∈ bss.flatten) [enc i] (xs[i.1]'(hlt i)) :=
            (OwL.rd i4 e (fun b hb => .inl hb) (fun b hb => .inr (List.mem_flatten.2 ⟨bi, List.mem_of_getElem? i3, hb⟩))).fr hfr
          have rdj : Rd P (.list e (.int .i64)) (sortWorld enc w g0 o0 m dk os) (fun b => B b ∨ b ∈ bss.flatten) [enc j] (xs[j.1]'(hlt j)) :=
            (OwL.rd j4 e (fun b hb => .inl hb) (fun b hb => .inr (List.mem_flatten.2 ⟨bj, List.mem_of_getElem? j3, hb⟩))).fr hfr
          have := hc.2 (sortWorld enc w g0 o0 m dk os) (fun b => B b ∨ b ∈ bss.flatten) [enc i, enc j] (xs[i.1]'(hlt i), xs[j.1]'(hlt j), ()) [] y'
            ⟨[enc i], [], [], rfl, rfl, .inl ⟨rfl, rdi, rfl⟩, [enc j], [], [], rfl, rfl, .inl ⟨rfl, rdj, rfl⟩, rfl⟩ (SelfOk.of rfl) List.nodup_nil (by simp)
            (fun b hb => Nat.lt_of_lt_of_le (hB' b hb).1 sw_size) hy'
          refine Calls.mono this ?_
          rintro ed w' ⟨us, B2, rbs, mbs, rfl, hr, _, hfr2, _⟩
          have hgr := grown_of (hfr2.mono (fun b _ => by simp) : Fr _ w' fun _ => True)
          refine ⟨?_, hgr⟩
          match us, hr with
          | [], hr => exact hr.elim
          | _ :: _ :: _, hr => obtain ⟨_, _, _, _, _, _, h⟩ := hr; exact h.elim
          | [u], hr =>
            obtain ⟨us', b5, b6, rfl, _, h5, _⟩ := hr
            have h6 : us' = [.int .i64 y'.1.1] := by
              rcases h5 with ⟨_, h5, _⟩ | ⟨_, h5⟩
              · exact h5
              · exact h5.1
            subst h6
            show Ending.returned (Value.int .i64 y'.1.1) = _
            congr 2
            show y'.1.1 = ((fc _ _).map fun z => z.1.1).getD 0
            have hy'' : fc (xs[i.1]'(hlt i)) (xs[j.1]'(hlt j)) = some y' := hy'
            rw [hy'']
            rfl
        have hcall := hs k enc cf g g0 o0 c d w (fun i => by obtain ⟨b, _, h, _⟩ := henc i; exact h) hswo hc.1 hcmp hH hg0.2 (by have := hO.small; omega)
        have hv0' : (.slice (some ⟨g0, o0, none⟩) xs.length c : Value) = .slice (some ⟨g0, o0, none⟩) d.size c := by rw [hsz]
        rw [← hv0'] at hcall
        refine Calls.mono hcall ?_
        rintro ed w' ⟨rfl, d', n, os, hperm, hsort, rfl⟩
        obtain ⟨p1, p2, p3⟩ := hperm
        have hd's : d'.size = k + 1 := by omega
        have hpl : d'.toList.Perm (List.finRange (k + 1)) := by
          have e1 : (d'.extract 0 d.size).toList = d'.toList := by rw [show d.size = d'.size by omega]; simp
          have e2 : (d.extract 0 d.size).toList = List.finRange (k + 1) := by rw [Array.extract_size]; exact fin_all k
          rw [e1, e2] at p3
          exact p3
        have hfin : (List.finRange (k + 1)).map (fun i : Fin (k + 1) => xs[i.1]'(hlt i)) = xs := by
          refine List.ext_getElem (by simp [hk]) fun i h1 h2 => ?_
          simp
        have hbl : (List.finRange (k + 1)).map (fun i : Fin (k + 1) => bss.getD i.1 []) = bss := by
          refine List.ext_getElem (by simp [q6, hk]) fun i h1 h2 => ?_
          simp at h1
          simp [h2]
        have hys : y.2.1 = d'.toList.map fun i : Fin (k + 1) => xs[i.1]'(hlt i) := by
          refine hsr.uniq ⟨hO, ?_, ?_⟩
          · have := hpl.map fun i : Fin (k + 1) => xs[i.1]'(hlt i)
            rwa [hfin] at this
          · refine List.pairwise_map.2 (List.pairwise_iff_getElem.2 fun i j hi hj hij => ?_)
            have h8 := hsort i j (Nat.zero_le _) hij (by simp at hj; omega)
            have hi' : i < d'.size := by simpa using hi
            have hj' : j < d'.size := by simpa using hj
            rw [getElem!_pos d' i hi', getElem!_pos d' j hj'] at h8
            have := of_decide_eq_false h8
            simpa using this
        have hbp : (d'.toList.map fun i : Fin (k + 1) => bss.getD i.1 []).Perm bss := by
          have := hpl.map fun i : Fin (k + 1) => bss.getD i.1 []
          rwa [hbl] at this
        have hmb : (g0 :: (d'.toList.map fun i : Fin (k + 1) => bss.getD i.1 []).flatten).Perm bs := by
          rw [q5]
          exact List.Perm.cons _ hbp.flatten
        have hfr : Fr w (sortWorld enc w g0 o0 n d' os) (fun b => b ≠ g0) := sw_fr
        refine ⟨[], B, [], g0 :: (d'.toList.map fun i : Fin (k + 1) => bss.getD i.1 []).flatten, rfl, rfl, ⟨_, [.slice (some ⟨g0, o0, none⟩) xs.length c], g0 :: (d'.toList.map fun i : Fin (k + 1) => bss.getD i.1 []).flatten, [], rfl, rfl, by simp, ⟨_, rfl, ⟨_, _, _, rfl⟩, ?_⟩, rfl⟩, hfr.mono fun b hb e => hb (e ▸ hg), ?_, fun b hb => ?_, fun b hb => hb, fun b hb => ⟨Nat.lt_of_lt_of_le (hB b hb) sw_size, .inl hb⟩⟩
        · show OwD P (.int .i64) _ B (.slice (some ⟨g0, o0, none⟩) xs.length c) y.2.1 none _
          have hyl : y.2.1.length = xs.length := by rw [hys]; simp; omega
          refine .inr ⟨g0, o0, c, putCells enc o0 d' cur, e', d'.toList.map fun i : Fin (k + 1) => bss.getD i.1 [], by rw [hyl], sw_row q2, by omega, by simpa [putCells] using q4, rfl, by rw [List.length_map, hyl]; simp; omega, fun i hi => ?_⟩
          have hi' : i < d'.size := by omega
          have hix : i < d'.toList.length := by simpa using hi'
          have hcs : o0 + i < cur.size := by omega
          obtain ⟨b, r1, r2, r3, r4⟩ := henc d'[i]
          refine ⟨enc d'[i], ?_, r2, .inr ⟨b, ?_, ?_⟩⟩
          · rw [putCells, Array.getElem?_mapIdx, Array.getElem?_eq_getElem hcs, Option.map_some, if_pos ⟨by omega, by omega⟩, show o0 + i - o0 = i by omega, getElem!_pos d' i hi']
          · rw [List.getElem?_map, List.getElem?_eq_getElem hix]
            simp [r3]
          · have he : y.2.1[i] = xs[(d'[i]).1]'(hlt _) := by
              have := List.getElem_of_eq hys hi
              rw [this]
              simp
            rw [he]
            refine OwL.next r4 (hfr.mono fun b hb e => hg0.1 (e ▸ hb)) (fun b hb => hb) fun x hx => ?_
            have hxf := hflat x (List.mem_flatten.2 ⟨b, List.mem_of_getElem? r3, hx⟩)
            exact sw_heap (hbs x hxf.1).2 hxf.2
        · rw [List.nil_append]
          exact hmb.nodup_iff.2 hnd
        · rw [List.nil_append] at hb
          have hb' := hmb.mem_iff.1 hb
          exact ⟨(hbs b hb').1, Nat.lt_of_lt_of_le (hbs b hb').2 sw_size, .inr hb'⟩

noncomputable def mergeI (xs : List Int) : List Int := xs.mergeSort fun x y => decide (x ≤ y)
noncomputable def sortIF (xs : List Int) : Option (Unit × (List Int × Unit)) := if xs.length < 4611686018427387904 then some ((), (mergeI xs, ())) else none
def SortsI (P : Program) (f : FuncId) : Prop := ∀ (blk off cap : Nat) (zs : List Int) (w : World), Holds (Value.int .i64) w blk off zs.toArray → blk < w.heap.size → zs.length < 4611686018427387904 →
  Calls P f #[.slice (some ⟨blk, off, none⟩) zs.length cap] w fun e w' => e = .returned (.tuple #[]) ∧ ∃ n os, w' = grow (putRow (Value.int .i64) (Sort.ahead w n) blk off (mergeI zs).toArray) os
def SortsINone (P : Program) (f : FuncId) : Prop := ∀ (p : Option Addr) (cap : Nat) (w : World), Calls P f #[.slice p 0 cap] w fun e w' => e = .returned (.tuple #[]) ∧ w' = w
theorem sortInts_pc {P : Program} {f : FuncId} {e : TypeId} (hs : SortsI P f) (hn : SortsINone P f) (ef : Ent P f) : PC P f ⟨[(.mut, .list e (.int .i64))], [], fun x => sortIF x.1⟩ := by
  refine ⟨ef, ?_⟩
  intro w B vals x bs y ha _ hnd hbs hB hf
  obtain ⟨xs, hxu⟩ := x
  change List Int at xs
  change Unit × (List Int × Unit) at y
  replace hf : sortIF xs = some y := hf
  match vals, ha with
  | [], ha => exact ha.elim
  | _ :: _ :: _, ha => obtain ⟨_, _, _, _, _, _, h⟩ := ha; exact h.elim
  | [v], ha =>
    obtain ⟨us, b1, b2, rfl, hb12, h1, hb2⟩ := ha
    rcases h1 with ⟨h1, _⟩ | ⟨_, _, h1⟩
    · cases h1
    obtain ⟨v0, rfl, ⟨A0, n0, c0, hv0⟩, h1⟩ := h1
    have hb2 : b2 = [] := hb2
    subst hb2
    rw [List.append_nil] at hb12
    subst hb12
    have h1 : OwL P (.int .i64) w B v0 xs bs := h1
    unfold sortIF at hf
    split at hf
    case isFalse => cases hf
    case isTrue hsm =>
    injection hf with hf
    subst hf
    have hml : (mergeI xs).length = xs.length := List.length_mergeSort _
    have none_case : xs.length = 0 → (∃ p c, v0 = .slice p 0 c) → Calls P f #[v0] w fun ed w' => ∃ us B' rbs mbs, ed = .returned (retV us) ∧ ResR P w' B' [] us () rbs ∧ MutR P w' B' [(.mut, .list e (.int .i64))] [v0] (mergeI xs, ()) mbs ∧ Fr w w' (fun b => b ∉ bs) ∧ (rbs ++ mbs).Nodup ∧
        (∀ b ∈ rbs ++ mbs, ¬ B' b ∧ b < w'.heap.size ∧ (w.heap.size ≤ b ∨ b ∈ bs)) ∧ (∀ b, B b → B' b) ∧ (∀ b, B' b → b < w'.heap.size ∧ (B b ∨ w.heap.size ≤ b ∨ b ∈ bs)) := by
      intro h0 ⟨p, c, hv⟩
      have hx : xs = [] := List.eq_nil_of_length_eq_zero h0
      refine Calls.mono (by rw [hv]; exact hn p c w) ?_
      rintro e' w' ⟨rfl, rfl⟩
      refine ⟨[], B, [], bs, rfl, rfl, ⟨v0, [v0], bs, [], rfl, rfl, by simp, ⟨v0, rfl, ⟨A0, n0, c0, hv0⟩, ?_⟩, rfl⟩, Fr.refl _ _, by simpa using hnd, fun b hb => ?_, fun b hb => hb, fun b hb => ⟨hB b hb, .inl hb⟩⟩
      · show OwL P (.int .i64) w' B v0 (mergeI xs) bs
        have : mergeI xs = xs := by rw [hx]; simp [mergeI]
        rw [this]
        exact h1
      · have hb : b ∈ bs := by simpa using hb
        exact ⟨(hbs b hb).1, (hbs b hb).2, .inr hb⟩
    have key := h1
    rcases h1 with ⟨rfl, hx, hbs0⟩ | ⟨g0, o0, c, cur, e', rfl, q2, q3, q4, q5, q7⟩
    · exact none_case (by rw [hx]; rfl) ⟨none, 0, rfl⟩
    · by_cases h0 : xs.length = 0
      · exact none_case h0 ⟨some ⟨g0, o0, none⟩, c, by rw [h0]⟩
      · clear none_case
        have hg : g0 ∈ bs := by rw [q5]; simp
        have hg0 := hbs g0 hg
        have hrow : ∀ i (h : i < xs.length), cur[o0 + i]? = some (.int .i64 xs[i]) := fun i hi => by
          obtain ⟨us, r1, r2, r3⟩ := q7 i hi
          cases r3
          have := r2 0 (by simp)
          simpa [Ty.n] using this
        have q4 : o0 + c ≤ cur.size := by simpa [Ty.n] using q4
        have hH : Holds (Value.int .i64) w g0 o0 xs.toArray := by
          intro j hj
          have hj' : j < xs.length := by simpa using hj
          rw [getElem!_pos xs.toArray j hj]
          refine ⟨by rw [cell_of_heap q2]; simpa using hrow j hj', ?_⟩
          simp [World.frozen?, q2]
        refine Calls.mono (hs g0 o0 c xs w hH hg0.2 hsm) ?_
        rintro ed w' ⟨rfl, n, os, hw⟩
        have hw : w' = sortWorld (Value.int .i64) w g0 o0 n (mergeI xs).toArray os := hw
        subst hw
        have hfr : Fr w (sortWorld (Value.int .i64) w g0 o0 n (mergeI xs).toArray os) (fun b => b ≠ g0) := sw_fr
        refine ⟨[], B, [], bs, rfl, rfl, ⟨_, [.slice (some ⟨g0, o0, none⟩) xs.length c], bs, [], rfl, rfl, by simp, ⟨_, rfl, ⟨_, _, _, rfl⟩, ?_⟩, rfl⟩, hfr.mono fun b hb e => hb (e ▸ hg), by simpa using hnd, fun b hb => ?_, fun b hb => hb, fun b hb => ⟨Nat.lt_of_lt_of_le (hB b hb) sw_size, .inl hb⟩⟩
        · show OwL P (.int .i64) _ B (.slice (some ⟨g0, o0, none⟩) xs.length c) (mergeI xs) bs
          refine .inr ⟨g0, o0, c, putCells (Value.int .i64) o0 (mergeI xs).toArray cur, e', by rw [hml], sw_row q2, by omega, by simpa [putCells, Ty.n] using q4, q5, fun i hi => ?_⟩
          have hcs : o0 + i < cur.size := by omega
          refine ⟨[.int .i64 (mergeI xs)[i]], rfl, fun j hj => ?_, rfl⟩
          have hj0 : j = 0 := by simpa using hj
          subst hj0
          have e1 : o0 + i * (Ty.int .i64).n + 0 = o0 + i := by simp [Ty.n]
          rw [e1, putCells, Array.getElem?_mapIdx, Array.getElem?_eq_getElem hcs, Option.map_some, if_pos ⟨by omega, by simp; omega⟩, show o0 + i - o0 = i by omega, getElem!_pos (mergeI xs).toArray i (by simpa using hi)]
          simp
        · have hb : b ∈ bs := by simpa using hb
          exact ⟨(hbs b hb).1, Nat.lt_of_lt_of_le (hbs b hb).2 sw_size, .inr hb⟩
end Go.PV
