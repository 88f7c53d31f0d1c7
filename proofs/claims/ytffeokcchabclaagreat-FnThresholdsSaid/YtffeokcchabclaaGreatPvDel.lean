/- slices.DeleteFunc on rows of numbers as a contract: the predicate may lay blocks. -/
import Derived.Test.YtffeokcchabclaaGreatPvSort
import Derived.Shelf.SlicesE.DeleteFunc
import Derived.Shelf.SlSortCmp.Insertion1
set_option linter.unusedVariables false
set_option linter.all false
namespace Go.PV
open Go Go.Sort Go.Proofs Go.Shelf Go.RowKit Go.Lib
variable {P : Program} {ρ : Go.Shelf.Ren} {α : Type} [Inhabited α] {enc : α → Value} {w0 W : World} {blk off : Nat} {dk : Array α}

theorem sw_put (h : SW enc w0 blk off dk W) (hblk : blk < w0.heap.size) : ∃ X : World, W = putRow enc X blk off dk ∧ ∀ dk' : Array α, SW enc w0 blk off dk' (putRow enc X blk off dk') := by
  obtain ⟨n, os, rfl⟩ := h
  refine ⟨grow (Sort.ahead w0 n) os, ?_, fun dk' => ⟨n, os, ?_⟩⟩
  · unfold sortWorld
    rw [putRow_grow enc (Sort.ahead w0 n) os blk off dk hblk]
  · unfold sortWorld
    rw [putRow_grow enc (Sort.ahead w0 n) os blk off dk' hblk]
theorem sw_set (h : SW enc w0 blk off dk W) (hblk : blk < w0.heap.size) (i : Nat) (u : α) (hi : i < dk.size) : SW enc w0 blk off (dk.setIfInBounds i u) (W.setCell ⟨blk, off + i, none⟩ (enc u)) := by
  obtain ⟨X, rfl, hX⟩ := sw_put h hblk
  rw [putRow_set enc X blk off dk i u hi]
  exact hX _

set_option maxHeartbeats 4000000 in
set_option maxRecDepth 1000000 in
theorem delD (L : SlLaysH.n10 P ρ) (enc : α → Value) (hO : OneCell enc) (p : α → Bool) (g : Nat) (fst lb : Array Value) (eg : ∀ args w, (callFunc g args).run P w = .ok (.enter g args) w) (zr : α) (v23 : ∀ w, (zeroValue (ρ.t 23)).run P w = .ok (enc zr) w)
    (blk off cap : Nat) (d : Array α) (w : World)
    (hIF : Calls P (ρ.f 6) #[.slice (some ⟨blk, off, none⟩) d.size cap, .func (.func g) fst lb] w fun e w' => e = .returned (.int .i64 (Lib.idxBy (fun _ y => p y) d.toList default)) ∧ SW enc w blk off d w')
    (hpo : ∀ (W : World) (dk : Array α) (u : α), SW enc w blk off dk W → dk.size = d.size → u ∈ d.toList → Calls P g (fst ++ #[enc u] ++ lb) W fun e w' => e = .returned (.bool (p u)) ∧ SW enc w blk off dk w')
    (hH : Holds enc w blk off d) (hblk : blk < w.heap.size) (hsz : d.size ≤ 9223372036854775807) (hcap : d.size ≤ cap) :
    Calls P (ρ.f 10) #[.slice (some ⟨blk, off, none⟩) d.size cap, .func (.func g) fst lb] w fun e w' => e = .returned (.slice (some ⟨blk, off, none⟩) (d.toList.filter fun x => !p x).length cap) ∧ SW enc w blk off ((d.toList.filter fun x => !p x) ++ List.replicate (d.size - (d.toList.filter fun x => !p x).length) zr).toArray w' := by
  have mixed := L.mixed; have t0 := L.t0; have a0 := L.a0; have z0 := L.z0; have v0 := L.v0; have t3 := L.t3; have a3 := L.a3; have z3 := L.z3; have v3 := L.v3; have t4 := L.t4; have a4 := L.a4; have z4 := L.z4; have v4 := L.v4; have t22 := L.t22; have a22 := L.a22; have z22 := L.z22; have v22 := L.v22; have a23 := L.a23; have z23 := L.z23; have t25 := L.t25; have a25 := L.a25; have z25 := L.z25; have v25 := L.v25
  have e6 : ∀ args w, (callFunc (ρ.f 6) args).run P w = .ok (.enter (ρ.f 6) args) w := L.f6.enters rfl
  have hcl0 := hO.cells
  simp only [Value.cells] at hcl0
  have hst := hO.store P
  have tl : ∀ j, j < d.size → d.toList[j]! = d[j]! := fun j hj => by rw [getElem!_pos d j hj, getElem!_pos d.toList j (by simpa using hj)]; simp
  obtain ⟨kp, HK⟩ : ∃ kp : Nat → Bool, Hid (kp = fun j => !p d[j]!) := ⟨_, rfl⟩
  have hfil : (d.toList.filter fun x => !p x) = keptUpTo kp d d.size := by rw [HK.out]; exact (keptUpTo_filter (fun x => !p x) d).symm
  rw [hfil]
  rcases idxByFrom_spec (fun _ y => p y) default d.toList 0 with ⟨e1, hall⟩ | ⟨k0, hk0, e1, ht, hall⟩
  · -- no element falls away
    have e2 : Lib.idxBy (fun _ y => p y) d.toList default = -1 := e1
    rw [e2] at hIF
    have hkeep : ∀ j, j < d.size → kp j = true := fun j hj => by rw [HK.out]; show (!p d[j]!) = true; rw [← tl j hj, hall j (by simpa using hj)]; rfl
    have e3 : keptUpTo kp d d.size = d.toList := by rw [keptUpTo_all kp d _ hkeep, range_map_get]
    clear hH hpo
    obtain ⟨_, _, FG⟩ := L.f10
    go_enter FG, SlBodyH.n10_ntmps ρ
    go_wp2_with (go_at_fn (ρ.f 6); refine hIF.mono ?_; rintro e w' ⟨rfl, S1⟩)
    go_ret
    rw [e3]
    refine ⟨by simp, ?_⟩
    simp only [Array.length_toList, Nat.sub_self, List.replicate_zero, List.append_nil, Array.toArray_toList]
    exact S1
  · have hk0' : k0 < d.size := by simpa using hk0
    have e2 : Lib.idxBy (fun _ y => p y) d.toList default = (k0 : Int) := by unfold Lib.idxBy; rw [e1]; simp
    rw [e2] at hIF
    have hkeep : ∀ j, j < k0 → kp j = true := fun j hj => by rw [HK.out]; show (!p d[j]!) = true; rw [← tl j (by omega), hall j hj]; rfl
    have hdrop : kp k0 = false := by rw [HK.out]; show (!p d[k0]!) = false; rw [← tl k0 hk0']; rw [show p d.toList[k0]! = true from ht]; rfl
    have hne1 : ((k0 : Int) == -1) = false := beq_eq_false_iff_ne.2 (by omega)
    have HC : Aside _ := hpo
    have HH : Aside (Holds enc w blk off d) := hH
    clear hpo hH hall ht e1 e2 tl
    obtain ⟨_, _, FG⟩ := L.f10
    go_enter FG, SlBodyH.n10_ntmps ρ
    go_wp2_with (go_at_fn (ρ.f 6); refine hIF.mono ?_; rintro e w' ⟨rfl, S1⟩)
    go_loopg [5, 6, 7] d.size (fun gg s5 s6 _ wr => ∃ (i j : Nat) (dk : Array α), s5 = .int .i64 i ∧ s6 = .int .i64 j ∧ j ≤ d.size ∧ d.size - j ≤ gg ∧ Aside (SW enc w blk off dk wr) ∧ Aside (KeptInv kp d j i dk))
    case atStart => exact ⟨k0, k0 + 1, d, rfl, by go_num, by omega, by omega, S1, KeptInv.start hkeep hdrop⟩
    case round =>
      clear S1
      obtain ⟨i, j, dk, rfl, rfl, hjd, hgg, S2, I2⟩ := hrel
      have hI := I2.out
      have hij := hI.lt
      have hds := hI.size
      have hHk : Holds enc wr blk off dk := S2.out.holds hblk HH.out hds
      by_cases hlt : j < d.size
      · have hltz : (j : Int) < (d.size : Int) := by omega
        obtain ⟨cj, _⟩ := hHk j (by omega)
        obtain ⟨ci, fi⟩ := hHk i (by omega)
        rw [hI.high j (by omega)] at cj
        have hcall := HC.out wr dk d[j]! S2.out hds (by rw [getElem!_pos d j hlt]; simp)
        -- what the row holds behind the call
        have hci2 : ∀ w', SW enc w blk off dk w' → w'.cell? ⟨blk, off + i, none⟩ = some (enc dk[i]!) ∧ w'.frozen? ⟨blk, off + i, none⟩ = false := fun w' h => (h.holds hblk HH.out hds) i (by omega)
        clear hHk hI
        generalize hu : d[j]! = u at cj hcall
        generalize dk[i]! = old at ci hci2
        have C : Aside (d[j]! = u) := hu
        clear hu
        cases hq : p u with
        | false =>
          rw [hq] at hcall
          go_wp2_with (go_at_fn g; refine hcall.mono ?_; rintro e w' ⟨rfl, S3⟩; obtain ⟨ci3, fi3⟩ := hci2 _ S3)
          go_roundg (d.size - (j + 1))
          case measure => omega
          case rel =>
            refine ⟨i + 1, j + 1, dk.setIfInBounds i u, by go_num, by go_num, by omega, Nat.le_refl _, (show Aside _ from sw_set S3 hblk i u (by omega)), (show Aside _ from ?_)⟩
            have := I2.out.keep hlt (by rw [HK.out]; show (!p d[j]!) = true; rw [C.out, hq]; rfl)
            rwa [C.out] at this
        | true =>
          rw [hq] at hcall
          go_wp2_with (go_at_fn g; refine hcall.mono ?_; rintro e w' ⟨rfl, S3⟩)
          go_roundg (d.size - (j + 1))
          case measure => omega
          case rel => exact ⟨i, j + 1, dk, rfl, by go_num, by omega, Nat.le_refl _, S3, I2.out.skip (by rw [HK.out]; show (!p d[j]!) = false; rw [C.out, hq]; rfl)⟩
      · obtain rfl : j = d.size := by omega
        have hltz : ¬ (d.size : Int) < (d.size : Int) := by omega
        have hcl : ∀ ty, (Builtin.clear_ #[ρ.t 22] ty #[.slice (some ⟨blk, off + i, none⟩) (d.size - i) (cap - i)]).run P wr = .ok (.tuple #[]) (wr.setCells blk (off + i) (List.replicate (d.size - i) (enc zr))) :=
          fun ty => Lib.run_clear_slice wr _ _ ty _ t22 v23 (hO.cells zr) (hO zr) blk (off + i) _ _ (by omega) (fun t ht => by rw [show off + i + t = off + (i + t) by omega, (hHk (i + t) (by omega)).1]; rfl) (fun t ht => by rw [show off + i + t = off + (i + t) by omega]; exact (hHk (i + t) (by omega)).2)
        clear hHk hI
        go_wp2
        go_ret
        have hI := I2.out
        refine ⟨by rw [hI.len]; rfl, ?_⟩
        obtain ⟨X, rfl, hX⟩ := sw_put S2.out hblk
        rw [hI.len, ← hI.done zr, ← List.map_replicate, putRow_setCells enc _ blk off _ dk i (by simp; omega)]
        exact hX _

theorem delD0 (L : SlLaysH.n10 P ρ) (p : Option Addr) (n c : Nat) (fv : Value) (w : World) {Q : World → Prop}
    (hIF : Calls P (ρ.f 6) #[.slice p n c, fv] w fun e w' => e = .returned (.int .i64 (-1)) ∧ Q w') :
    Calls P (ρ.f 10) #[.slice p n c, fv] w fun e w' => e = .returned (.slice p n c) ∧ Q w' := by
  have mixed := L.mixed; have t0 := L.t0; have a0 := L.a0; have z0 := L.z0; have v0 := L.v0; have t3 := L.t3; have a3 := L.a3; have z3 := L.z3; have v3 := L.v3; have t4 := L.t4; have a4 := L.a4; have z4 := L.z4; have v4 := L.v4; have t22 := L.t22; have a22 := L.a22; have z22 := L.z22; have v22 := L.v22; have a23 := L.a23; have z23 := L.z23; have t25 := L.t25; have a25 := L.a25; have z25 := L.z25; have v25 := L.v25
  have e6 : ∀ args w, (callFunc (ρ.f 6) args).run P w = .ok (.enter (ρ.f 6) args) w := L.f6.enters rfl
  obtain ⟨_, _, FG⟩ := L.f10
  go_enter FG, SlBodyH.n10_ntmps ρ
  go_wp2_with (go_at_fn (ρ.f 6); refine hIF.mono ?_; rintro e w' ⟨rfl, S1⟩)
  go_ret
  exact ⟨rfl, S1⟩

theorem idx_map {β γ : Type} (g : γ → Bool) (h : β → γ) (x : β) (x' : γ) : ∀ (l : List β) (i : Nat), Lib.idxByFrom (fun _ y => g (h y)) x l i = Lib.idxByFrom (fun _ y => g y) x' (l.map h) i := by
  intro l
  induction l with
  | nil => intro i; rfl
  | cons y l ih =>
    intro i
    simp only [List.map_cons, Lib.idxByFrom]
    rw [ih]
def idxR (g : List Int → Bool) (xs : List (List Int)) : Int := Lib.idxBy (fun _ y => g y) xs []
noncomputable def delF (ix : List (List Int) → (List Int → Option Bool) → Option ((Int × Unit) × Unit)) (xs : List (List Int)) (f : List Int → Option Bool) : Option ((List (List Int) × Unit) × Unit) :=
  open Classical in if (∀ x ∈ xs, ∃ b, f x = some b) ∧ ix xs f = some ((idxR (fun x => (f x).getD false) xs, ()), ()) ∧ xs.length ≤ 1099511627776 then some ((xs.filter (fun x => !(f x).getD false), ()), ()) else none
theorem sub_flatten {α : Type} : ∀ {a b : List (List α)}, a.Sublist b → a.flatten.Sublist b.flatten := by
  intro a b h
  induction h with
  | slnil => exact List.Sublist.refl _
  | cons x _ ih => rw [List.flatten_cons]; exact ih.trans (List.sublist_append_right _ _)
  | cons_cons x _ ih => rw [List.flatten_cons, List.flatten_cons]; exact List.Sublist.append (List.Sublist.refl _) ih

theorem deleteRows_pc (L : SlLaysH.n10 P ρ) (v23 : ∀ w, (zeroValue (ρ.t 23)).run P w = .ok (.slice none 0 0) w) {E e : TypeId} {o : Bool} {ix : List (List Int) → (List Int → Option Bool) → Option ((Int × Unit) × Unit)} (ef : Ent P (ρ.f 10))
    (hc : PC P (ρ.f 6) ⟨[(.ro, .list E (.list e (.int .i64))), (.ro, .fn1 (.list e (.int .i64)) .bool)], [(o, .int .i64)], fun x => ix x.1 x.2.1⟩) :
    PC P (ρ.f 10) ⟨[(.own, .list E (.list e (.int .i64))), (.ro, .fn1 (.list e (.int .i64)) .bool)], [(true, .list E (.list e (.int .i64)))], fun x => delF ix x.1 x.2.1⟩ := by
  refine ⟨ef, ?_⟩
  intro w B vals x bs y ha _ hnd hbs hB hf
  obtain ⟨xs, fc, hxu⟩ := x
  change List (List Int) at xs
  change List Int → Option Bool at fc
  change (List (List Int) × Unit) × Unit at y
  replace hf : delF ix xs fc = some y := hf
  match vals, ha with
  | [], ha => exact ha.elim
  | [_], ha => obtain ⟨_, _, _, _, _, _, h⟩ := ha; exact h.elim
  | _ :: _ :: _ :: _, ha => obtain ⟨_, _, _, _, _, _, _, _, _, _, _, _, h⟩ := ha; exact h.elim
  | [v, fv], ha =>
    obtain ⟨us, b1, b2, rfl, hb12, h1, us2, b3, b4, rfl, hb34, h2, hb4⟩ := ha
    rcases h1 with ⟨h1, _⟩ | ⟨_, _, h1⟩
    · cases h1
    obtain ⟨_, h2k, hb3⟩ := h2.resolve_right fun q => absurd rfl q.1
    obtain ⟨v0, rfl, ⟨A0, n0, c0, hv0⟩, h1⟩ := h1
    have hb4 : b4 = [] := hb4
    subst hb3 hb4
    rw [List.append_nil] at hb34
    subst hb34
    rw [List.append_nil] at hb12
    subst hb12
    have h1 : OwD P (.int .i64) w B v0 xs none bs := h1
    have h2k : Rd P (.fn1 (.list e (.int .i64)) .bool) w B us2 fc := h2k
    have h2c := h2k
    obtain ⟨fid, fst, caps, rfl, hent, hfn⟩ := h2c
    -- what the search gives
    have hB1 : ∀ b, (B b ∨ b ∈ bs) → b < w.heap.size := fun b hb => hb.elim (hB b) fun h => (hbs b h).2
    have rdv : Rd P (.list E (.list e (.int .i64))) w (fun b => B b ∨ b ∈ bs) [v0] xs := OwD.rd h1 E e (fun b hb => .inl hb) (fun b hb => .inr hb)
    have rdf := h2k.mono (B' := fun b => B b ∨ b ∈ bs) fun b hb => .inl hb
    unfold delF at hf
    split at hf
    case isFalse => cases hf
    case isTrue hcond =>
    obtain ⟨hall, hix, hsm⟩ := hcond
    injection hf with hf
    have hsearch := hc.2 w (fun b => B b ∨ b ∈ bs) [v0, .func (.func fid) fst caps] (xs, fc, ()) [] _ ⟨[v0], [], [], rfl, rfl, .inl ⟨rfl, rdv, rfl⟩, [.func (.func fid) fst caps], [], [], rfl, rfl, .inl ⟨rfl, rdf, rfl⟩, rfl⟩ (SelfOk.of rfl) List.nodup_nil (by simp) hB1 hix
    have hidx : Calls P (ρ.f 6) #[v0, .func (.func fid) fst caps] w fun ed w' => ed = .returned (.int .i64 (idxR (fun x => (fc x).getD false) xs)) ∧ Fr w w' (fun _ => True) := by
      refine Calls.mono hsearch ?_
      rintro ed w' ⟨us, B2, rbs, mbs, rfl, hr, _, hfr2, _⟩
      refine ⟨?_, hfr2.mono (fun b _ => by simp)⟩
      match us, hr with
      | [], hr => exact hr.elim
      | _ :: _ :: _, hr => obtain ⟨_, _, _, _, _, _, h⟩ := hr; exact h.elim
      | [u], hr =>
        obtain ⟨us', b5, b6, rfl, _, h5, _⟩ := hr
        have h6 : us' = [.int .i64 (idxR (fun x => (fc x).getD false) xs)] := by
          rcases h5 with ⟨_, h5, _⟩ | ⟨_, h5⟩
          · exact h5
          · exact h5.1
        subst h6
        rfl
    subst hf
    -- nothing there
    have none_case : xs.length = 0 → (∃ p c, v0 = .slice p 0 c) → Calls P (ρ.f 10) #[v0, .func (.func fid) fst caps] w fun ed w' => ∃ us B' rbs mbs, ed = .returned (retV us) ∧ ResR P w' B' [(true, .list E (.list e (.int .i64)))] us (xs.filter (fun x => !(fc x).getD false), ()) rbs ∧ MutR P w' B' [(.own, .list E (.list e (.int .i64))), (.ro, .fn1 (.list e (.int .i64)) .bool)] [v0, .func (.func fid) fst caps] () mbs ∧ Fr w w' (fun b => b ∉ bs) ∧ (rbs ++ mbs).Nodup ∧
        (∀ b ∈ rbs ++ mbs, ¬ B' b ∧ b < w'.heap.size ∧ (w.heap.size ≤ b ∨ b ∈ bs)) ∧ (∀ b, B b → B' b) ∧ (∀ b, B' b → b < w'.heap.size ∧ (B b ∨ w.heap.size ≤ b ∨ b ∈ bs)) := by
      intro h0 ⟨p, c, hv⟩
      have hx : xs = [] := List.eq_nil_of_length_eq_zero h0
      subst hx
      subst hv
      have hi1 : Calls P (ρ.f 6) #[.slice p 0 c, .func (.func fid) fst caps] w fun ed w' => ed = .returned (.int .i64 (-1)) ∧ Fr w w' (fun _ => True) := hidx
      refine Calls.mono (delD0 L p 0 c _ w hi1) ?_
      rintro e' w' ⟨rfl, hfr⟩
      refine ⟨[.slice p 0 c], B, bs, [], rfl, ⟨[.slice p 0 c], bs, [], rfl, by simp, .inr ⟨rfl, _, rfl, ⟨p, 0, c, rfl⟩, ?_⟩, rfl⟩, rfl, hfr.mono (fun b _ => trivial), by simpa using hnd, fun b hb => ?_, fun b hb => hb, fun b hb => ⟨Nat.lt_of_lt_of_le (hB b hb) hfr.size, .inl hb⟩⟩
      · show OwD P (.int .i64) w' B (.slice p 0 c) [] none bs
        exact OwD.next h1 (hfr.mono fun _ _ => trivial) (fun b hb => hb) fun b hb => hfr.block b (hbs b hb).2 trivial
      · have hb : b ∈ bs := by simpa using hb
        exact ⟨(hbs b hb).1, Nat.lt_of_lt_of_le (hbs b hb).2 hfr.size, .inr hb⟩
    have key := h1
    rcases h1 with ⟨rfl, hx, hbs0⟩ | ⟨g0, o0, c, cur, e', bss, rfl, q2, q3, q4, q5, q6, q7⟩
    · exact none_case (by rw [hx]; rfl) ⟨none, 0, rfl⟩
    · by_cases h0 : xs.length = 0
      · exact none_case h0 ⟨some ⟨g0, o0, none⟩, c, by rw [h0]⟩
      · clear none_case
        obtain ⟨k, hk⟩ : ∃ k, xs.length = k + 1 := ⟨xs.length - 1, by omega⟩
        have hlt : ∀ i : Fin (k + 1), i.1 < xs.length := fun i => by rw [hk]; exact i.2
        have hrow : ∀ i : Fin (k + 1), ∃ u b, cur[o0 + i.1]? = some u ∧ u.oneCell' = true ∧ bss[i.1]? = some b ∧ OwL P (.int .i64) w B u (xs[i.1]'(hlt i)) b := fun i => by
          obtain ⟨u, r1, r2, r3⟩ := q7 i.1 (hlt i)
          rcases r3 with ⟨h, _⟩ | ⟨b, r3, r4⟩
          · cases h
          · exact ⟨u, b, r1, r2, r3, r4⟩
        let en : Fin (k + 1) → Value := fun i => Classical.choose (hrow i)
        have hen : ∀ i, ∃ b, cur[o0 + i.1]? = some (en i) ∧ (en i).oneCell' = true ∧ bss[i.1]? = some b ∧ OwL P (.int .i64) w B (en i) (xs[i.1]'(hlt i)) b := fun i => Classical.choose_spec (hrow i)
        clear_value en
        let enc : Option (Fin (k + 1)) → Value := fun i => i.elim (.slice none 0 0) en
        let row : Option (Fin (k + 1)) → List Int := fun i => i.elim [] fun i => xs[i.1]'(hlt i)
        let blo : Option (Fin (k + 1)) → List Nat := fun i => i.elim [] fun i => bss.getD i.1 []
        have hO : OneCell enc := fun i => by
          cases i with
          | none => rfl
          | some i =>
            obtain ⟨b, _, h, _⟩ := hen i
            exact h
        let p : Option (Fin (k + 1)) → Bool := fun i => (fc (row i)).getD false
        have hmem : ∀ i : Fin (k + 1), xs[i.1]'(hlt i) ∈ xs := fun i => List.getElem_mem _
        have hg : g0 ∈ bs := by rw [q5]; simp
        have hg0 := hbs g0 hg
        have hflat : ∀ b ∈ bss.flatten, b ∈ bs ∧ b ≠ g0 := fun b hb => by
          rw [q5] at hnd ⊢
          exact ⟨List.mem_cons_of_mem _ hb, fun e => (List.nodup_cons.1 hnd).1 (e ▸ hb)⟩
        let d : Array (Option (Fin (k + 1))) := Array.ofFn fun i : Fin (k + 1) => some i
        have hds : d.size = k + 1 := by simp [d]
        have hd : ∀ j, (hj : j < k + 1) → d[j]! = some ⟨j, hj⟩ := fun j hj => by simp [d, hj]
        have hdl : d.toList = (List.finRange (k + 1)).map some := by
          refine List.ext_getElem (by simp [d]) fun i h1 h2 => ?_
          rw [List.getElem_map, List.getElem_finRange, Array.getElem_toList]
          simp only [d]
          rw [Array.getElem_ofFn]
          rfl
        have hsz : xs.length = d.size := by rw [hds, hk]
        have hrows : d.toList.map row = xs := by
          rw [hdl, List.map_map]
          refine List.ext_getElem (by simp [hk]) fun i h1 h2 => ?_
          simp [row]
        have hbls : d.toList.map blo = bss := by
          rw [hdl, List.map_map]
          refine List.ext_getElem (by simp [q6, hk]) fun i h1 h2 => ?_
          simp at h1
          simp [blo, h2]
        have hH : Holds enc w g0 o0 d := by
          intro j hj
          have hj' : j < k + 1 := by omega
          obtain ⟨b, r1, _⟩ := hen ⟨j, hj'⟩
          rw [hd j hj']
          refine ⟨by rw [cell_of_heap q2]; exact r1, ?_⟩
          simp [World.frozen?, q2]
        have hB' : ∀ b, (B b ∨ b ∈ bss.flatten) → b < w.heap.size ∧ b ≠ g0 := fun b hb => by
          rcases hb with hb | hb
          · exact ⟨hB b hb, fun e => hg0.1 (e ▸ hb)⟩
          · exact ⟨(hbs b (hflat b hb).1).2, (hflat b hb).2⟩
        have hidx2 : Calls P (ρ.f 6) #[.slice (some ⟨g0, o0, none⟩) d.size c, .func (.func fid) fst caps] w fun ed w' => ed = .returned (.int .i64 (Lib.idxBy (fun _ y => p y) d.toList default)) ∧ SW enc w g0 o0 d w' := by
          rw [← hsz]
          refine Calls.mono hidx ?_
          rintro ed w' ⟨rfl, hfr⟩
          obtain ⟨q, os, rfl⟩ := grown_of hfr
          refine ⟨?_, (SW.start hH).grown q os⟩
          have : Lib.idxBy (fun _ y => p y) d.toList default = idxR (fun x => (fc x).getD false) xs := by
            unfold Lib.idxBy idxR Lib.idxBy
            rw [← hrows]
            exact idx_map (fun x => (fc x).getD false) row default [] d.toList 0
          rw [this]
        have hpo : ∀ (W : World) (dk : Array (Option (Fin (k + 1)))) (u : Option (Fin (k + 1))), SW enc w g0 o0 dk W → dk.size = d.size → u ∈ d.toList → Calls P fid (fst ++ #[enc u] ++ caps) W fun ed w' => ed = .returned (.bool (p u)) ∧ SW enc w g0 o0 dk w' := by
          intro W dk u hW hdk hu
          rw [hdl] at hu
          obtain ⟨i, _, rfl⟩ := List.mem_map.1 hu
          have hW0 := hW
          obtain ⟨m, os, rfl⟩ := hW
          obtain ⟨z, hz⟩ := hall _ (hmem i)
          obtain ⟨bi, _, _, i3, i4⟩ := hen i
          have hfr : Fr w (sortWorld enc w g0 o0 m dk os) (fun b => B b ∨ b ∈ bss.flatten) := sw_fr.mono fun b hb => (hB' b hb).2
          have rdi : Rd P (.list e (.int .i64)) (sortWorld enc w g0 o0 m dk os) (fun b => B b ∨ b ∈ bss.flatten) [en i] (xs[i.1]'(hlt i)) :=
            (OwL.rd i4 e (fun b hb => .inl hb) (fun b hb => .inr (List.mem_flatten.2 ⟨bi, List.mem_of_getElem? i3, hb⟩))).fr hfr
          refine Calls.mono (hfn (sortWorld enc w g0 o0 m dk os) (fun b => B b ∨ b ∈ bss.flatten) [en i] (xs[i.1]'(hlt i)) z (hfr.mono fun b hb => .inl hb) (fun b hb => Nat.lt_of_lt_of_le (hB' b hb).1 sw_size) rdi hz) ?_
          rintro ed w' ⟨us', rfl, hr, hfr2⟩
          obtain ⟨q, os2, rfl⟩ := grown_of hfr2
          refine ⟨?_, hW0.grown q os2⟩
          have hr : us' = [.bool z] := hr
          subst hr
          show Ending.returned (Value.bool z) = .returned (.bool ((fc (xs[i.1]'(hlt i))).getD false))
          rw [hz]
          rfl
        have hcall := delD L enc hO p fid fst caps hent none v23 g0 o0 c d w hidx2 hpo hH hg0.2 (by omega) (by omega)
        have hv0' : (.slice (some ⟨g0, o0, none⟩) xs.length c : Value) = .slice (some ⟨g0, o0, none⟩) d.size c := by rw [hsz]
        rw [← hv0'] at hcall
        refine Calls.mono hcall ?_
        rintro ed w' ⟨rfl, n, os, rfl⟩
        obtain ⟨fl, hfl⟩ : ∃ fl : List (Option (Fin (k + 1))), fl = d.toList.filter fun x => !p x := ⟨_, rfl⟩
        rw [← hfl]
        have hys : xs.filter (fun x => !(fc x).getD false) = fl.map row := by
          rw [hfl, ← hrows, List.filter_map]
          rfl
        have hfll : fl.length ≤ k + 1 := by
          rw [hfl]
          exact Nat.le_trans (List.length_filter_le ..) (by rw [Array.length_toList, hds]; exact Nat.le_refl _)
        have hflm : ∀ i (hi : i < fl.length), ∃ q : Fin (k + 1), fl[i] = some q := fun i hi => by
          have hz : ∀ z ∈ fl, z ∈ d.toList := fun z hz => by
            rw [hfl] at hz
            exact (List.mem_filter.1 hz).1
          have := hz _ (List.getElem_mem hi)
          rw [hdl] at this
          obtain ⟨q, _, hq⟩ := List.mem_map.1 this
          exact ⟨q, hq.symm⟩
        have hsub : (fl.map blo).Sublist bss := by
          have : (fl.map blo).Sublist (d.toList.map blo) := List.Sublist.map _ (by rw [hfl]; exact List.filter_sublist)
          rwa [hbls] at this
        have hsubf := sub_flatten hsub
        obtain ⟨D, hD⟩ : ∃ D : Array (Option (Fin (k + 1))), D = (fl ++ List.replicate (d.size - fl.length) none).toArray := ⟨_, rfl⟩
        rw [← hD]
        have hDs : D.size = k + 1 := by rw [hD]; simp; omega
        have hfr : Fr w (sortWorld enc w g0 o0 n D os) (fun b => b ≠ g0) := sw_fr
        have hbs2 : ∀ b ∈ g0 :: (fl.map blo).flatten, b ∈ bs := fun b hb => by
          rcases List.mem_cons.1 hb with rfl | hb
          · exact hg
          · exact (hflat b (hsubf.subset hb)).1
        refine ⟨[.slice (some ⟨g0, o0, none⟩) fl.length c], B, g0 :: (fl.map blo).flatten, [], rfl, ⟨[.slice (some ⟨g0, o0, none⟩) fl.length c], g0 :: (fl.map blo).flatten, [], rfl, by simp, .inr ⟨rfl, _, rfl, ⟨_, _, _, rfl⟩, ?_⟩, rfl⟩, rfl, hfr.mono fun b hb e => hb (e ▸ hg), ?_, fun b hb => ?_, fun b hb => hb, fun b hb => ⟨Nat.lt_of_lt_of_le (hB b hb) sw_size, .inl hb⟩⟩
        · show OwD P (.int .i64) _ B (.slice (some ⟨g0, o0, none⟩) fl.length c) (xs.filter (fun x => !(fc x).getD false)) none _
          rw [hys]
          refine .inr ⟨g0, o0, c, putCells enc o0 D cur, e', fl.map blo, by rw [List.length_map], sw_row q2, by rw [List.length_map]; omega, by simpa [putCells] using q4, rfl, by simp, fun i hi => ?_⟩
          have hi' : i < fl.length := by simpa using hi
          have hcs : o0 + i < cur.size := by omega
          obtain ⟨q, hq⟩ := hflm i hi'
          obtain ⟨b, r1, r2, r3, r4⟩ := hen q
          have hDi : D[i]! = some q := by
            rw [getElem!_pos D i (by omega)]
            subst hD
            simp only [List.getElem_toArray]
            rw [List.getElem_append_left hi']
            exact hq
          refine ⟨en q, ?_, r2, .inr ⟨b, ?_, ?_⟩⟩
          · rw [putCells, Array.getElem?_mapIdx, Array.getElem?_eq_getElem hcs, Option.map_some, if_pos ⟨by omega, by omega⟩, show o0 + i - o0 = i by omega, hDi]
            rfl
          · rw [List.getElem?_map, List.getElem?_eq_getElem hi', hq]
            simp [blo, r3]
          · have he : (fl.map row)[i]'hi = xs[q.1]'(hlt q) := by
              rw [List.getElem_map, hq]
              rfl
            rw [he]
            refine OwL.next r4 (hfr.mono fun b hb e => hg0.1 (e ▸ hb)) (fun b hb => hb) fun x hx => ?_
            have hxf := hflat x (List.mem_flatten.2 ⟨b, List.mem_of_getElem? r3, hx⟩)
            exact sw_heap (hbs x hxf.1).2 hxf.2
        · rw [List.append_nil]
          rw [q5] at hnd
          refine List.nodup_cons.2 ⟨fun h => (List.nodup_cons.1 hnd).1 (hsubf.subset h), ?_⟩
          exact (List.nodup_cons.1 hnd).2.sublist hsubf
        · rw [List.append_nil] at hb
          have hb' := hbs2 b hb
          exact ⟨(hbs b hb').1, Nat.lt_of_lt_of_le (hbs b hb').2 sw_size, .inr hb'⟩
end Go.PV
