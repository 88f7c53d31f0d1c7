/- The kit's contracts of the sorts, laid at the program. -/
import Derived.Test.YtkffaahlpdlkoaaGreedyColoursTa
import Derived.RangeFuncLeaves
import Derived.Shelf.Abstract
import Derived.WalkKit
import Derived.OwnWalkIn
import Derived.TacticsInMore
import Derived.LoopNIn
import Derived.LoopIn
import Derived.Test.YtkffaahlpdlkoaaPvIter
import Derived.Test.YtkffaahlpdlkoaaPvSortB
set_option linter.all false
namespace Go.Proofs
open Go.Shelf Go.PV
def Try.sortIL_ren : Go.Shelf.Ren := ⟨fun | 53 => 56 | 64 => 67 | 63 => 66 | 78 => 80 | 79 => 81 | 70 => 71 | 71 => 72 | 72 => 73 | 73 => 74 | 74 => 75 | 75 => 76 | 59 => 77 | 76 => 78 | 77 => 79 | 88 => 83 | 89 => 84 | 90 => 85 | 91 => 86 | 92 => 87 | 68 => 82 | 96 => 88 | n => n, fun | 22 => 25 | 23 => 3 | 3 => 3 | 51 => 66 | 0 => 0 | 67 => 76 | 69 => 79 | 4 => 4 | 61 => 93 | 60 => 92 | 44 => 97 | 5 => 5 | 9 => 9 | 75 => 101 | 79 => 105 | 83 => 107 | 84 => 108 | n => n, fun | n => n⟩
theorem Try.sortIL : Go.Proofs.SlLaysN.n53 Try.prog Try.sortIL_ren := {
  mixed := by kernel_rfl,
  f53 := ⟨Try.f56.name, by decide, Try.func56.trans (congrArg some (by kernel_rfl))⟩,
  f59 := ⟨Try.f77.name, by decide, Try.func77.trans (congrArg some (by kernel_rfl))⟩,
  f63 := ⟨Try.f66.name, by decide, Try.func66.trans (congrArg some (by kernel_rfl))⟩,
  f64 := Try.func67.trans (congrArg some (by kernel_rfl)),
  f68 := ⟨Try.f82.name, by decide, Try.func82.trans (congrArg some (by kernel_rfl))⟩,
  f70 := ⟨Try.f71.name, by decide, Try.func71.trans (congrArg some (by kernel_rfl))⟩,
  f71 := ⟨Try.f72.name, by decide, Try.func72.trans (congrArg some (by kernel_rfl))⟩,
  f72 := ⟨Try.f73.name, by decide, Try.func73.trans (congrArg some (by kernel_rfl))⟩,
  f73 := ⟨Try.f74.name, by decide, Try.func74.trans (congrArg some (by kernel_rfl))⟩,
  f74 := ⟨Try.f75.name, by decide, Try.func75.trans (congrArg some (by kernel_rfl))⟩,
  f75 := ⟨Try.f76.name, by decide, Try.func76.trans (congrArg some (by kernel_rfl))⟩,
  f76 := ⟨Try.f78.name, by decide, Try.func78.trans (congrArg some (by kernel_rfl))⟩,
  f77 := ⟨Try.f79.name, by decide, Try.func79.trans (congrArg some (by kernel_rfl))⟩,
  f78 := Try.func80.trans (congrArg some (by kernel_rfl)),
  f79 := Try.func81.trans (congrArg some (by kernel_rfl)),
  f88 := ⟨Try.f83.name, by decide, Try.func83.trans (congrArg some (by kernel_rfl))⟩,
  f89 := Try.func84.trans (congrArg some (by kernel_rfl)),
  f90 := Try.func85.trans (congrArg some (by kernel_rfl)),
  f91 := ⟨Try.f86.name, by decide, Try.func86.trans (congrArg some (by kernel_rfl))⟩,
  f92 := ⟨Try.f87.name, by decide, Try.func87.trans (congrArg some (by kernel_rfl))⟩,
  f96 := ⟨Try.f88.name, by decide, Try.func88.trans (congrArg some (by kernel_rfl))⟩,
  t0 := Try.underlying0,
  a0 := Try.isAgg0,
  z0 := Try.sizeOf0,
  v0 := Try.zeroValue0,
  t3 := Try.underlying3,
  a3 := Try.isAgg3,
  z3 := Try.sizeOf3,
  v3 := Try.zeroValue3,
  t4 := Try.underlying4,
  a4 := Try.isAgg4,
  z4 := Try.sizeOf4,
  v4 := Try.zeroValue4,
  t5 := Try.underlying5,
  a5 := Try.isAgg5,
  z5 := Try.sizeOf5,
  v5 := Try.zeroValue5,
  t9 := Try.underlying9,
  a9 := Try.isAgg9,
  z9 := Try.sizeOf9,
  v9 := Try.zeroValue9,
  t22 := Try.underlying25,
  a22 := Try.isAgg25,
  z22 := Try.sizeOf25,
  v22 := Try.zeroValue25,
  t23 := Try.underlying3,
  a23 := Try.isAgg3,
  z23 := Try.sizeOf3,
  v23 := Try.zeroValue3,
  t44 := Try.underlying97,
  a44 := Try.isAgg97,
  z44 := Try.sizeOf97,
  v44 := Try.zeroValue97,
  t51 := Try.underlying66,
  a51 := Try.isAgg66,
  z51 := Try.sizeOf66,
  v51 := Try.zeroValue66,
  t60 := Try.underlying92,
  a60 := Try.isAgg92,
  z60 := Try.sizeOf92,
  v60 := Try.zeroValue92,
  t61 := Try.underlying93,
  a61 := Try.isAgg93,
  z61 := Try.sizeOf93,
  v61 := Try.zeroValue93,
  t67 := Try.underlying76,
  a67 := Try.isAgg76,
  z67 := Try.sizeOf76,
  v67 := Try.zeroValue76,
  t69 := Try.underlying79,
  a69 := Try.isAgg79,
  z69 := Try.sizeOf79,
  v69 := Try.zeroValue79,
  t75 := Try.underlying101,
  a75 := Try.isAgg101,
  z75 := Try.sizeOf101,
  v75 := Try.zeroValue101,
  t79 := Try.underlying105,
  a79 := Try.isAgg105,
  z79 := Try.sizeOf105,
  v79 := Try.zeroValue105,
  t83 := Try.underlying107,
  a83 := Try.isAgg107,
  z83 := Try.sizeOf107,
  v83 := Try.zeroValue107,
  t84 := Try.underlying108,
  a84 := Try.isAgg108,
  z84 := Try.sizeOf108,
  v84 := Try.zeroValue108 }
def Try.sortedL_ren : Go.Shelf.Ren := ⟨fun | 6 => 41 | 8 => 55 | 9 => 56 | 11 => 65 | 13 => 67 | 12 => 66 | 23 => 80 | 24 => 81 | 14 => 71 | 15 => 72 | 16 => 73 | 17 => 74 | 18 => 75 | 19 => 76 | 20 => 77 | 21 => 78 | 22 => 79 | 25 => 83 | 26 => 84 | 27 => 85 | 28 => 86 | 29 => 87 | 30 => 82 | 31 => 88 | n => n, fun | 26 => 3 | 28 => 61 | 24 => 25 | 0 => 0 | 3 => 3 | 37 => 66 | 48 => 76 | 50 => 79 | 4 => 4 | 40 => 93 | 39 => 92 | 45 => 97 | 5 => 5 | 9 => 9 | 51 => 101 | 55 => 105 | 57 => 107 | 58 => 108 | 33 => 51 | n => n, fun | n => n⟩
theorem Try.sortedL : Go.Proofs.SlLaysZI.n6 Try.prog Try.sortedL_ren := {
  mixed := by kernel_rfl,
  f6 := ⟨Try.f41.name, by decide, Try.func41.trans (congrArg some (by kernel_rfl))⟩,
  f8 := ⟨Try.f55.name, by decide, Try.func55.trans (congrArg some (by kernel_rfl))⟩,
  f11 := ⟨Try.f65.name, by decide, Try.func65.trans (congrArg some (by kernel_rfl))⟩,
  t0 := Try.underlying0,
  a0 := Try.isAgg0,
  z0 := Try.sizeOf0,
  v0 := Try.zeroValue0,
  t24 := Try.underlying25,
  a24 := Try.isAgg25,
  z24 := Try.sizeOf25,
  v24 := Try.zeroValue25,
  t26 := Try.underlying3,
  a26 := Try.isAgg3,
  z26 := Try.sizeOf3,
  v26 := Try.zeroValue3,
  t28 := Try.underlying61,
  a28 := Try.isAgg61,
  z28 := Try.sizeOf61,
  v28 := Try.zeroValue61,
  i26 := by kernel_rfl }
section
open Go.RowKit Go.Maps Go.PV
attribute [local go_sem] Oper.semAt_some
set_option maxRecDepth 100000 in
set_option maxHeartbeats 2000000 in
/-- The iterator over a list: its numbers come in their order. -/
theorem Try.valsDo (n : Nat) (hn : 1 ≤ n) (Bs : Nat) (sv : Value) (zs : List Int) (w : World) (hreach : zs.length * 8 ≤ 140737488351232) (hBs : w.cell? ⟨Bs, 0, none⟩ = some sv)
    (hI : ValsIn w sv zs) :
    SeqDoes Fence.wide n Try.prog 57 #[.pointer (some ⟨Bs, 0, none⟩)] zs w := by
  intro l J W hB hY h0
  have hBw := hB _ _ h0
  have hBl : Bs < w.heap.size := World.block_lt_of_cell? w _ hBs
  have hBs' := (hBw.cell (p := ⟨Bs, 0, none⟩) hBl).trans hBs
  rcases hI with ⟨A, c, rfl, rfl⟩ | ⟨b, off, cap, rfl, hb, hc⟩
  · refine callsIn_of_wp Try.func57 rfl trivial ?_ rfl
    simp only [Try.ntmps57, List.size_toArray, List.length_cons, List.length_nil, Nat.reduceAdd, Nat.reduceSub, Array.replicate_succ, Array.replicate_zero, List.push_toArray, List.append_toArray, List.nil_append, List.cons_append]
    gi_wp2
    gi_loopw [7] (fun i wr => i = .int .i64 0 ∧ J [] wr) (fun _ _ => 0)
    case atStart => exact ⟨rfl, h0⟩
    case round =>
      obtain ⟨rfl, hJs⟩ := hrel
      gi_wp2
      go_end0
      exact ⟨⟨_, rfl⟩, hJs⟩
  · refine callsIn_of_wp Try.func57 rfl trivial ?_ rfl
    simp only [Try.ntmps57, List.size_toArray, List.length_cons, List.length_nil, Nat.reduceAdd, Nat.reduceSub, Array.replicate_succ, Array.replicate_zero, List.push_toArray, List.append_toArray, List.nil_append, List.cons_append]
    gi_wp2
    gi_loopw [7] (fun i wr => ∃ k : Nat, k ≤ zs.length ∧ i = .int .i64 k ∧ J (zs.take k) wr) (fun i _ => zs.length - natOfV i)
    case atStart => exact ⟨0, Nat.zero_le _, rfl, h0⟩
    case round =>
      obtain ⟨k, hk, rfl, hJs⟩ := hrel
      have hnx := hB _ _ hJs
      have hcx : k < zs.length → wr.cell? ⟨b, off + k, none⟩ = some (.int .i64 (zs[k]?.getD 0)) := fun h => (hnx.cell (p := ⟨b, off + k, none⟩) hb).trans (hc k h)
      by_cases hlt : k < zs.length
      · obtain ⟨fn, tmps, assign, body, hy, hR⟩ := hY _ (zs[k]?.getD 0) wr hJs (by rw [List.length_take]; omega)
        have hcx' := hcx hlt
        have hnext : zs.take k ++ [zs[k]?.getD 0] = zs.take (k + 1) := by rw [List.take_add_one, List.getElem?_eq_getElem hlt]; rfl
        obtain ⟨x, hx⟩ : ∃ x, zs[k]?.getD 0 = x := ⟨_, rfl⟩
        rw [hx] at hy hR hcx' hnext
        clear hx hcx hc
        gi_wp2
        refine hR.mono ?_
        rintro e W3 ⟨rfl, hJ3⟩
        gi_wp2
        go_roundw
        case rel => exact ⟨k + 1, by omega, by simp, by rw [← hnext]; exact hJ3⟩
        case measure => simp [natOfV]; omega
      · obtain rfl : k = zs.length := by omega
        gi_wp2
        go_end0
        rw [List.take_length] at hJs
        exact ⟨⟨_, rfl⟩, hJs⟩
theorem Try.sortedAt : SortedAt Try.prog 41 57 (Try.sortedL_ren.t 26) := fun Bs sv zs w hl hb hv =>
  sortedD (ρ := Try.sortedL_ren) Try.sortedL 9 (by omega) (show SortsI Try.prog 56 from sortsI Try.sortIL) (show SortsINone Try.prog 56 from sortsINone Try.sortIL) Try.call56 57 _ Try.call57 zs (by simp only [maxLen]; omega) (by omega) w (Try.valsDo _ (by omega) Bs sv zs w (by omega) hb hv)
end
end Go.Proofs
