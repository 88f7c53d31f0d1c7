/- slices.SortFunc on pairs of numbers as a contract, out of the kit's own contract of it. -/
import Derived.Test.YtahehkidnfmfnaaGreatPvSort
import Derived.Shelf.SlSortCmp.KitK
set_option linter.all false
namespace Go.PV
open Go Go.Sort Go.Proofs

abbrev Twi : Type := Int × Int
abbrev TwT : Ty := .pair (.int .i64) (.int .i64)
def cmpP (fc : Twi → Twi → Option Int) (a b : Twi) : Int := (fc a b).getD 0
structure OrderedP (fc : Twi → Twi → Option Int) (xs : List Twi) : Prop where
  small : xs.length < 4611686018427387904
  all : ∀ a ∈ xs, ∀ b ∈ xs, ∃ c, fc a b = some c
  irrefl : ∀ a ∈ xs, ¬ cmpP fc a a < 0
  trans : ∀ a ∈ xs, ∀ b ∈ xs, ∀ c ∈ xs, cmpP fc a b < 0 → cmpP fc b c < 0 → cmpP fc a c < 0
  ntrans : ∀ a ∈ xs, ∀ b ∈ xs, ∀ c ∈ xs, ¬ cmpP fc a b < 0 → ¬ cmpP fc b c < 0 → ¬ cmpP fc a c < 0
  anti : ∀ a ∈ xs, ∀ b ∈ xs, ¬ cmpP fc a b < 0 → ¬ cmpP fc b a < 0 → a = b
def SrtedP (fc : Twi → Twi → Option Int) (xs ys : List Twi) : Prop := OrderedP fc xs ∧ ys.Perm xs ∧ ys.Pairwise fun a b => ¬ cmpP fc b a < 0

theorem srt_uniqP {R : Twi → Twi → Prop} : ∀ {ys zs : List Twi}, ys.Perm zs → ys.Pairwise R → zs.Pairwise R → (∀ a ∈ ys, ∀ b ∈ ys, R a b → R b a → a = b) → ys = zs := by
  intro ys
  induction ys with
  | nil => intro zs hp _ _ _; exact (List.nil_perm.1 hp).symm
  | cons a ys ih =>
    intro zs hp hy hz ha
    cases zs with
    | nil => exact absurd (List.perm_nil.1 hp) (by simp)
    | cons b zs =>
      obtain ⟨hy1, hy2⟩ := List.pairwise_cons.1 hy
      obtain ⟨hz1, hz2⟩ := List.pairwise_cons.1 hz
      have e : a = b := by
        have h1 : a ∈ b :: zs := hp.mem_iff.1 (List.mem_cons_self ..)
        have h2 : b ∈ a :: ys := hp.mem_iff.2 (List.mem_cons_self ..)
        rcases List.mem_cons.1 h1 with h1 | h1
        · exact h1
        · rcases List.mem_cons.1 h2 with h2 | h2
          · exact h2.symm
          · exact ha a (List.mem_cons_self ..) b (List.mem_cons_of_mem _ h2) (hy1 b h2) (hz1 a h1)
      subst e
      rw [ih (List.Perm.cons_inv hp) hy2 hz2 fun x hx y hy => ha x (List.mem_cons_of_mem _ hx) y (List.mem_cons_of_mem _ hy)]
theorem SrtedP.uniq {fc : Twi → Twi → Option Int} {xs ys zs : List Twi} (h : SrtedP fc xs ys) (h' : SrtedP fc xs zs) : ys = zs :=
  srt_uniqP (h.2.1.trans h'.2.1.symm) h.2.2 h'.2.2 fun a ha b hb h1 h2 => h.1.anti a (h.2.1.mem_iff.1 ha) b (h.2.1.mem_iff.1 hb) h2 h1
noncomputable def sortPF (fc : Twi → Twi → Option Int) (xs : List Twi) : Option (Unit × (List Twi × Unit)) :=
  open Classical in if h : ∃ ys, SrtedP fc xs ys then some ((), (Classical.choose h, ())) else none
theorem sortPF_eq {fc : Twi → Twi → Option Int} {xs ys : List Twi} (h : SrtedP fc xs ys) : sortPF fc xs = some ((), (ys, ())) := by
  unfold sortPF
  have hex : ∃ ys, SrtedP fc xs ys := ⟨ys, h⟩
  rw [dif_pos hex, (Classical.choose_spec hex).uniq h]
theorem sortPF_some {fc : Twi → Twi → Option Int} {xs : List Twi} {y : Unit × (List Twi × Unit)} (h : sortPF fc xs = some y) : SrtedP fc xs y.2.1 := by
  unfold sortPF at h
  split at h
  · rename_i hex
    injection h with h
    subst h
    exact Classical.choose_spec hex
  · cases h


def SortsPAt (P : Program) (f : FuncId) : Prop := ∀ (k : Nat) (enc : Fin (k + 1) → List Value) (cf : Fin (k + 1) → Fin (k + 1) → Int) (g : Nat) (blk off cap : Nat) (d : Array (Fin (k + 1))) (w : World),
  (∀ x, (enc x).length = 2) → (∀ x, ∀ v ∈ enc x, v.oneCell' = true) → SWO (ltOf cf) → (∀ args w, (callFunc g args).run P w = .ok (.enter g args) w) → CmpLays P g #[] enc 2 cf blk off d.size w → HoldsK enc 2 w blk off d → blk < w.heap.size → d.size < 4611686018427387904 →
  Calls P f #[.slice (some ⟨blk, off, none⟩) d.size cap, .func (.func g) #[] #[]] w fun e w' => e = .returned (.tuple #[]) ∧ ∃ d' n os, PermIn 0 d.size d d' ∧ SortedIn (ltOf cf) 0 d.size d' ∧ w' = sortWorldK enc 2 w blk off n d' os

theorem swk_eq {α : Type} [Inhabited α] (enc : α → List Value) (w : World) (blk off n : Nat) (d : Array α) (os : Array Obj) : sortWorldK enc 2 w blk off n d os = sortWorld id w blk off n (flatK enc 2 d) os := rfl
theorem flat_at {α : Type} [Inhabited α] (enc : α → List Value) (d : Array α) (i j : Nat) (hi : i < d.size) (hj : j < 2) : (flatK enc 2 d)[i * 2 + j]! = (enc d[i]!)[j]! := by
  rw [get_flatK enc 2 d _ (by omega), show (i * 2 + j) / 2 = i by omega, show (i * 2 + j) % 2 = j by omega]
theorem rd_pair {P : Program} {w : World} {B : Nat → Prop} {us : List Value} {x : Twi} (h : Rd P TwT w B us x) : us = [.int .i64 x.1, .int .i64 x.2] := by
  obtain ⟨u, v, rfl, h1, h2⟩ := h
  have h1 : u = [.int .i64 x.1] := h1
  have h2 : v = [.int .i64 x.2] := h2
  rw [h1, h2]
  rfl

theorem sortPairs_pc {P : Program} {f g : FuncId} {E : TypeId} {o : Bool} {fc : Twi → Twi → Option ((Int × Unit) × Unit)} (hs : SortsPAt P f) (hn : SortsNone P f) (ef : Ent P f)
    (hc : PC P g ⟨[(.ro, TwT), (.ro, TwT)], [(o, .int .i64)], fun x => fc x.1 x.2.1⟩) :
    PC P f ⟨[(.mut, .list E TwT), (.own, .kclo g .unit)], [], fun x => sortPF (fun a b => (fc a b).map fun z => z.1.1) x.1⟩ := by
  refine ⟨ef, ?_⟩
  intro w B vals x bs y ha _ hnd hbs hB hf
  obtain ⟨xs, hcu, hxu⟩ := x
  change List Twi at xs
  change Unit × (List Twi × Unit) at y
  replace hf : sortPF (fun a b => (fc a b).map fun z => z.1.1) xs = some y := hf
  match vals, ha with
  | [], ha => exact ha.elim
  | [_], ha => obtain ⟨_, _, _, _, _, _, h⟩ := ha; exact h.elim
  | _ :: _ :: _ :: _, ha => obtain ⟨_, _, _, _, _, _, _, _, _, _, _, _, h⟩ := ha; exact h.elim
  | [v, fv], ha =>
    obtain ⟨us, b1, b2, rfl, hb12, h1, us2, b3, b4, rfl, hb34, h2, hb4⟩ := ha
    rcases h1 with ⟨h1, _⟩ | ⟨_, _, h1⟩
    · cases h1
    rcases h2 with ⟨h2, _⟩ | ⟨_, _, h2⟩
    · cases h2
    obtain ⟨v0, rfl, ⟨A0, n0, c0, hv0⟩, h1⟩ := h1
    obtain ⟨vs, rfl, hvs, hb3⟩ := h2
    have hvs : vs = [] := hvs
    have hb4 : b4 = [] := hb4
    subst hvs hb3 hb4
    rw [List.append_nil] at hb34
    subst hb34
    rw [List.append_nil] at hb12
    subst hb12
    have h1 : OwL P TwT w B v0 xs bs := h1
    have hsr : SrtedP (fun a b => (fc a b).map fun z => z.1.1) xs y.2.1 := sortPF_some hf
    -- nothing to sort
    have none_case : xs.length = 0 → (∃ p c, v0 = .slice p 0 c) → Calls P f #[v0, .func (.func g) #[] #[]] w fun ed w' => ∃ us B' rbs mbs, ed = .returned (retV us) ∧ ResR P w' B' [] us y.1 rbs ∧ MutR P w' B' [(.mut, .list E TwT), (.own, .kclo g .unit)] [v0, .func (.func g) #[] #[]] y.2 mbs ∧ Fr w w' (fun b => b ∉ bs) ∧ (rbs ++ mbs).Nodup ∧
        (∀ b ∈ rbs ++ mbs, ¬ B' b ∧ b < w'.heap.size ∧ (w.heap.size ≤ b ∨ b ∈ bs)) ∧ (∀ b, B b → B' b) ∧ (∀ b, B' b → b < w'.heap.size ∧ (B b ∨ w.heap.size ≤ b ∨ b ∈ bs)) := by
      intro h0 ⟨p, c, hv⟩
      have hx : xs = [] := List.eq_nil_of_length_eq_zero h0
      have hy : y.2.1 = [] := by
        have := hsr.2.1
        rw [hx] at this
        exact List.perm_nil.1 this
      refine Calls.mono (by rw [hv]; exact hn p c _ w) ?_
      rintro e' w' ⟨rfl, rfl⟩
      refine ⟨[], B, [], bs, rfl, rfl, ⟨v0, [v0], bs, [], rfl, rfl, by simp, ⟨v0, rfl, ⟨A0, n0, c0, hv0⟩, ?_⟩, rfl⟩, Fr.refl _ _, by simpa using hnd, fun b hb => ?_, fun b hb => hb, fun b hb => ⟨hB b hb, .inl hb⟩⟩
      · show OwL P TwT w' B v0 y.2.1 bs
        rw [hy, ← hx]
        exact h1
      · have hb : b ∈ bs := by simpa using hb
        exact ⟨(hbs b hb).1, (hbs b hb).2, .inr hb⟩
    have key := h1
    rcases h1 with ⟨rfl, hx, hbs0⟩ | ⟨g0, o0, c, cur, e', rfl, q2, q3, q4, q5, q7⟩
    · exact none_case (by rw [hx]; rfl) ⟨none, 0, rfl⟩
    · by_cases h0 : xs.length = 0
      · exact none_case h0 ⟨some ⟨g0, o0, none⟩, c, by rw [h0]⟩
      · clear none_case
        obtain ⟨k, hk⟩ : ∃ k, xs.length = k + 1 := ⟨xs.length - 1, by omega⟩
        have hlt : ∀ i : Fin (k + 1), i.1 < xs.length := fun i => by rw [hk]; exact i.2
        have q4 : o0 + c * 2 ≤ cur.size := q4
        let enc : Fin (k + 1) → List Value := fun i => [.int .i64 (xs[i.1]'(hlt i)).1, .int .i64 (xs[i.1]'(hlt i)).2]
        have henc2 : ∀ i, (enc i).length = 2 := fun i => rfl
        have hrow : ∀ (i : Fin (k + 1)) (j : Nat), j < 2 → cur[o0 + i.1 * 2 + j]? = some (enc i)[j]! := fun i j hj => by
          obtain ⟨us, r1, r2, r3⟩ := q7 i.1 (hlt i)
          have r3 := rd_pair r3
          have r3 : us = enc i := r3
          subst r3
          have := r2 j (by rw [henc2]; exact hj)
          rw [getElem!_pos (enc i) j (by rw [henc2]; exact hj)]
          exact this
        have hrd : ∀ (i : Fin (k + 1)) w B, Rd P TwT w B (enc i) (xs[i.1]'(hlt i)) := fun i w B => ⟨_, _, rfl, rfl, rfl⟩
        have hone : ∀ i, ∀ v ∈ enc i, v.oneCell' = true := fun i => Rd.one (hrd i w B)
        clear_value enc
        let cf : Fin (k + 1) → Fin (k + 1) → Int := fun i j => cmpP (fun a b => (fc a b).map fun z => z.1.1) (xs[i.1]'(hlt i)) (xs[j.1]'(hlt j))
        have hmem : ∀ i : Fin (k + 1), xs[i.1]'(hlt i) ∈ xs := fun i => List.getElem_mem _
        have hO := hsr.1
        have hswo : SWO (ltOf cf) := by
          refine ⟨fun i => ?_, fun i j l h1 h2 => ?_, fun i j l h1 h2 => ?_⟩
          · exact decide_eq_false (hO.irrefl _ (hmem i))
          · exact decide_eq_true (hO.trans _ (hmem i) _ (hmem j) _ (hmem l) (of_decide_eq_true h1) (of_decide_eq_true h2))
          · exact decide_eq_false (hO.ntrans _ (hmem i) _ (hmem j) _ (hmem l) (of_decide_eq_false h1) (of_decide_eq_false h2))
        have hg : g0 ∈ bs := by rw [q5]; simp
        have hg0 := hbs g0 hg
        let d : Array (Fin (k + 1)) := Array.ofFn fun i => i
        have hds : d.size = k + 1 := by simp [d]
        have hd : ∀ j, (hj : j < k + 1) → d[j]! = ⟨j, hj⟩ := fun j hj => by simp [d, hj]
        have hsz : xs.length = d.size := by rw [hds, hk]
        have hH : HoldsK enc 2 w g0 o0 d := by
          intro t ht
          rw [size_flatK, hds] at ht
          have ht2 : t / 2 < k + 1 := by omega
          have e1 : t = t / 2 * 2 + t % 2 := by omega
          have h2 := hrow ⟨t / 2, ht2⟩ (t % 2) (by omega)
          have e2 : o0 + t = o0 + t / 2 * 2 + t % 2 := by omega
          have e3 : (flatK enc 2 d)[t]! = (enc ⟨t / 2, ht2⟩)[t % 2]! := by
            rw [get_flatK enc 2 d t (by rw [hds]; exact ht), hd _ ht2]
          rw [e3, e2]
          refine ⟨by rw [cell_of_heap q2]; exact h2, ?_⟩
          simp [World.frozen?, q2]
        have hB' : ∀ b, B b → b < w.heap.size ∧ b ≠ g0 := fun b hb => ⟨hB b hb, fun e => hg0.1 (e ▸ hb)⟩
        have hcmp : CmpLays P g #[] enc 2 cf g0 o0 d.size w := by
          intro m os dk hdk i j
          obtain ⟨z, hz⟩ := hO.all _ (hmem i) _ (hmem j)
          obtain ⟨y', hy', hyz⟩ := Option.map_eq_some_iff.1 hz
          have := hc.2 (sortWorldK enc 2 w g0 o0 m dk os) B [.agg (enc i).toArray, .agg (enc j).toArray] (xs[i.1]'(hlt i), xs[j.1]'(hlt j), ()) [] y'
            ⟨enc i, [], [], rfl, rfl, .inl ⟨rfl, hrd i _ _, rfl⟩, enc j, [], [], rfl, rfl, .inl ⟨rfl, hrd j _ _, rfl⟩, rfl⟩ (SelfOk.of rfl) List.nodup_nil (by simp)
            (fun b hb => Nat.lt_of_lt_of_le (hB' b hb).1 (by rw [swk_eq]; exact sw_size)) hy'
          refine Calls.mono this ?_
          rintro ed w' ⟨us, B2, rbs, mbs, rfl, hr, _, hfr2, _⟩
          have hgr := grown_of (hfr2.mono (fun b _ => by simp) : Fr _ w' fun _ => True)
          refine ⟨?_, hgr⟩
          match us, hr with
          | [], hr => exact hr.elim
          | _ :: _ :: _, hr => obtain ⟨_, _, _, _, _, _, h⟩ := hr; exact h.elim
          | [u], hr =>
            obtain ⟨us', b5, b6, rfl, _, h5, _⟩ := hr
            have h6 : us' = [.int .i64 y'.1.1] := by
              rcases h5 with ⟨_, h5, _⟩ | ⟨_, h5⟩
              · exact h5
              · exact h5.1
            subst h6
            show Ending.returned (Value.int .i64 y'.1.1) = _
            congr 2
            show y'.1.1 = ((fc _ _).map fun z => z.1.1).getD 0
            have hy'' : fc (xs[i.1]'(hlt i)) (xs[j.1]'(hlt j)) = some y' := hy'
            rw [hy'']
            rfl
        have hcall := hs k enc cf g g0 o0 c d w henc2 hone hswo hc.1 hcmp hH hg0.2 (by have := hO.small; omega)
        have hv0' : (.slice (some ⟨g0, o0, none⟩) xs.length c : Value) = .slice (some ⟨g0, o0, none⟩) d.size c := by rw [hsz]
        rw [← hv0'] at hcall
        refine Calls.mono hcall ?_
        rintro ed w' ⟨rfl, d', n, os, hperm, hsort, hw⟩
        rw [swk_eq] at hw
        subst hw
        obtain ⟨p1, p2, p3⟩ := hperm
        have hd's : d'.size = k + 1 := by omega
        have hpl : d'.toList.Perm (List.finRange (k + 1)) := by
          have e1 : (d'.extract 0 d.size).toList = d'.toList := by rw [show d.size = d'.size by omega]; simp
          have e2 : (d.extract 0 d.size).toList = List.finRange (k + 1) := by rw [Array.extract_size]; exact fin_all k
          rw [e1, e2] at p3
          exact p3
        have hfin : (List.finRange (k + 1)).map (fun i : Fin (k + 1) => xs[i.1]'(hlt i)) = xs := by
          refine List.ext_getElem (by simp [hk]) fun i h1 h2 => ?_
          simp
        have hys : y.2.1 = d'.toList.map fun i : Fin (k + 1) => xs[i.1]'(hlt i) := by
          refine hsr.uniq ⟨hO, ?_, ?_⟩
          · have := hpl.map fun i : Fin (k + 1) => xs[i.1]'(hlt i)
            rwa [hfin] at this
          · refine List.pairwise_map.2 (List.pairwise_iff_getElem.2 fun i j hi hj hij => ?_)
            have h8 := hsort i j (Nat.zero_le _) hij (by simp at hj; omega)
            have hi' : i < d'.size := by simpa using hi
            have hj' : j < d'.size := by simpa using hj
            rw [getElem!_pos d' i hi', getElem!_pos d' j hj'] at h8
            have := of_decide_eq_false h8
            simpa using this
        have hfr : Fr w (sortWorld id w g0 o0 n (flatK enc 2 d') os) (fun b => b ≠ g0) := sw_fr
        refine ⟨[], B, [], bs, rfl, rfl, ⟨_, [.slice (some ⟨g0, o0, none⟩) xs.length c], bs, [], rfl, rfl, by simp, ⟨_, rfl, ⟨_, _, _, rfl⟩, ?_⟩, rfl⟩, hfr.mono fun b hb e => hb (e ▸ hg), by simpa using hnd, fun b hb => ?_, fun b hb => hb, fun b hb => ⟨Nat.lt_of_lt_of_le (hB b hb) sw_size, .inl hb⟩⟩
        · show OwL P TwT _ B (.slice (some ⟨g0, o0, none⟩) xs.length c) y.2.1 bs
          have hyl : y.2.1.length = xs.length := by rw [hys]; simp; omega
          refine .inr ⟨g0, o0, c, putCells id o0 (flatK enc 2 d') cur, e', by rw [hyl], sw_row q2, by omega, by rw [show TwT.n = 2 from rfl]; simpa [putCells] using q4, q5, fun i hi => ?_⟩
          have hi' : i < d'.size := by omega
          have hix : i < d'.toList.length := by simpa using hi'
          refine ⟨enc d'[i], henc2 _, fun j hj => ?_, ?_⟩
          · have hj2 : j < 2 := by rw [henc2] at hj; exact hj
            have hcs : o0 + i * 2 + j < cur.size := by omega
            show (putCells id o0 (flatK enc 2 d') cur)[o0 + i * 2 + j]? = _
            rw [putCells, Array.getElem?_mapIdx, Array.getElem?_eq_getElem hcs, Option.map_some, if_pos ⟨by omega, by rw [size_flatK]; omega⟩, show o0 + i * 2 + j - o0 = i * 2 + j by omega, flat_at enc d' i j hi' hj2, getElem!_pos d' i hi', getElem!_pos (enc d'[i]) j hj]
            rfl
          · have he : y.2.1[i] = xs[(d'[i]).1]'(hlt _) := by
              have := List.getElem_of_eq hys hi
              rw [this]
              simp
            rw [he]
            exact hrd _ _ _
        · have hb : b ∈ bs := by simpa using hb
          exact ⟨(hbs b hb).1, Nat.lt_of_lt_of_le (hbs b hb).2 sw_size, .inr hb⟩
end Go.PV
