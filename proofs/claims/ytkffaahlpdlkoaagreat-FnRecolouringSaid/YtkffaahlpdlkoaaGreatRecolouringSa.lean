/- The kit's contracts of the sorts, laid at the program. -/
import Derived.Test.YtkffaahlpdlkoaaGreatRecolouringTa
import Derived.RangeFuncLeaves
import Derived.Shelf.Abstract
import Derived.WalkKit
import Derived.OwnWalkIn
import Derived.TacticsInMore
import Derived.LoopNIn
import Derived.LoopIn
import Derived.Test.YtkffaahlpdlkoaaGreatPvIter
import Derived.Test.YtkffaahlpdlkoaaGreatPvSortA
import Derived.Test.YtkffaahlpdlkoaaGreatPvSortB
set_option linter.all false
namespace Go.Proofs
open Go.Shelf Go.PV
def Tryz.sortIL_ren : Go.Shelf.Ren := ⟨fun | 53 => 106 | 64 => 139 | 63 => 143 | 78 => 165 | 79 => 166 | 70 => 169 | 71 => 170 | 72 => 171 | 73 => 172 | 74 => 173 | 75 => 174 | 59 => 175 | 76 => 176 | 77 => 177 | 88 => 186 | 89 => 182 | 90 => 183 | 91 => 187 | 92 => 188 | 68 => 167 | 96 => 192 | n => n, fun | 22 => 27 | 23 => 3 | 3 => 3 | 51 => 90 | 0 => 0 | 67 => 142 | 69 => 63 | 4 => 4 | 61 => 154 | 60 => 153 | 44 => 30 | 5 => 5 | 9 => 9 | 75 => 166 | 79 => 170 | 83 => 176 | 84 => 177 | n => n, fun | n => n⟩
theorem Tryz.sortIL : Go.Proofs.SlLaysN.n53 Tryz.prog Tryz.sortIL_ren := {
  mixed := by kernel_rfl,
  f53 := ⟨Tryz.f106.name, by decide, Tryz.func106.trans (congrArg some (by kernel_rfl))⟩,
  f59 := ⟨Tryz.f175.name, by decide, Tryz.func175.trans (congrArg some (by kernel_rfl))⟩,
  f63 := ⟨Tryz.f143.name, by decide, Tryz.func143.trans (congrArg some (by kernel_rfl))⟩,
  f64 := Tryz.func139.trans (congrArg some (by kernel_rfl)),
  f68 := ⟨Tryz.f167.name, by decide, Tryz.func167.trans (congrArg some (by kernel_rfl))⟩,
  f70 := ⟨Tryz.f169.name, by decide, Tryz.func169.trans (congrArg some (by kernel_rfl))⟩,
  f71 := ⟨Tryz.f170.name, by decide, Tryz.func170.trans (congrArg some (by kernel_rfl))⟩,
  f72 := ⟨Tryz.f171.name, by decide, Tryz.func171.trans (congrArg some (by kernel_rfl))⟩,
  f73 := ⟨Tryz.f172.name, by decide, Tryz.func172.trans (congrArg some (by kernel_rfl))⟩,
  f74 := ⟨Tryz.f173.name, by decide, Tryz.func173.trans (congrArg some (by kernel_rfl))⟩,
  f75 := ⟨Tryz.f174.name, by decide, Tryz.func174.trans (congrArg some (by kernel_rfl))⟩,
  f76 := ⟨Tryz.f176.name, by decide, Tryz.func176.trans (congrArg some (by kernel_rfl))⟩,
  f77 := ⟨Tryz.f177.name, by decide, Tryz.func177.trans (congrArg some (by kernel_rfl))⟩,
  f78 := Tryz.func165.trans (congrArg some (by kernel_rfl)),
  f79 := Tryz.func166.trans (congrArg some (by kernel_rfl)),
  f88 := ⟨Tryz.f186.name, by decide, Tryz.func186.trans (congrArg some (by kernel_rfl))⟩,
  f89 := Tryz.func182.trans (congrArg some (by kernel_rfl)),
  f90 := Tryz.func183.trans (congrArg some (by kernel_rfl)),
  f91 := ⟨Tryz.f187.name, by decide, Tryz.func187.trans (congrArg some (by kernel_rfl))⟩,
  f92 := ⟨Tryz.f188.name, by decide, Tryz.func188.trans (congrArg some (by kernel_rfl))⟩,
  f96 := ⟨Tryz.f192.name, by decide, Tryz.func192.trans (congrArg some (by kernel_rfl))⟩,
  t0 := Tryz.underlying0,
  a0 := Tryz.isAgg0,
  z0 := Tryz.sizeOf0,
  v0 := Tryz.zeroValue0,
  t3 := Tryz.underlying3,
  a3 := Tryz.isAgg3,
  z3 := Tryz.sizeOf3,
  v3 := Tryz.zeroValue3,
  t4 := Tryz.underlying4,
  a4 := Tryz.isAgg4,
  z4 := Tryz.sizeOf4,
  v4 := Tryz.zeroValue4,
  t5 := Tryz.underlying5,
  a5 := Tryz.isAgg5,
  z5 := Tryz.sizeOf5,
  v5 := Tryz.zeroValue5,
  t9 := Tryz.underlying9,
  a9 := Tryz.isAgg9,
  z9 := Tryz.sizeOf9,
  v9 := Tryz.zeroValue9,
  t22 := Tryz.underlying27,
  a22 := Tryz.isAgg27,
  z22 := Tryz.sizeOf27,
  v22 := Tryz.zeroValue27,
  t23 := Tryz.underlying3,
  a23 := Tryz.isAgg3,
  z23 := Tryz.sizeOf3,
  v23 := Tryz.zeroValue3,
  t44 := Tryz.underlying30,
  a44 := Tryz.isAgg30,
  z44 := Tryz.sizeOf30,
  v44 := Tryz.zeroValue30,
  t51 := Tryz.underlying90,
  a51 := Tryz.isAgg90,
  z51 := Tryz.sizeOf90,
  v51 := Tryz.zeroValue90,
  t60 := Tryz.underlying153,
  a60 := Tryz.isAgg153,
  z60 := Tryz.sizeOf153,
  v60 := Tryz.zeroValue153,
  t61 := Tryz.underlying154,
  a61 := Tryz.isAgg154,
  z61 := Tryz.sizeOf154,
  v61 := Tryz.zeroValue154,
  t67 := Tryz.underlying142,
  a67 := Tryz.isAgg142,
  z67 := Tryz.sizeOf142,
  v67 := Tryz.zeroValue142,
  t69 := Tryz.underlying63,
  a69 := Tryz.isAgg63,
  z69 := Tryz.sizeOf63,
  v69 := Tryz.zeroValue63,
  t75 := Tryz.underlying166,
  a75 := Tryz.isAgg166,
  z75 := Tryz.sizeOf166,
  v75 := Tryz.zeroValue166,
  t79 := Tryz.underlying170,
  a79 := Tryz.isAgg170,
  z79 := Tryz.sizeOf170,
  v79 := Tryz.zeroValue170,
  t83 := Tryz.underlying176,
  a83 := Tryz.isAgg176,
  z83 := Tryz.sizeOf176,
  v83 := Tryz.zeroValue176,
  t84 := Tryz.underlying177,
  a84 := Tryz.isAgg177,
  z84 := Tryz.sizeOf177,
  v84 := Tryz.zeroValue177 }
def Tryz.sortL_ren : Go.Shelf.Ren := ⟨fun | 6 => 101 | 15 => 139 | 14 => 138 | 28 => 165 | 29 => 166 | 20 => 157 | 21 => 158 | 22 => 159 | 23 => 160 | 24 => 161 | 25 => 162 | 26 => 163 | 27 => 164 | 46 => 181 | 47 => 182 | 48 => 183 | 49 => 184 | 50 => 185 | 57 => 191 | n => n, fun | 22 => 32 | 24 => 27 | 25 => 111 | 3 => 3 | 39 => 90 | 0 => 0 | 53 => 142 | 55 => 63 | 4 => 4 | 46 => 154 | 45 => 153 | 50 => 30 | 5 => 5 | 9 => 9 | 66 => 166 | 70 => 170 | 76 => 176 | 77 => 177 | n => n, fun | n => n⟩
theorem Tryz.sortL : Go.Proofs.SlLaysF.n6 Tryz.prog Tryz.sortL_ren := {
  mixed := by kernel_rfl,
  f6 := ⟨Tryz.f101.name, by decide, Tryz.func101.trans (congrArg some (by kernel_rfl))⟩,
  f14 := ⟨Tryz.f138.name, by decide, Tryz.func138.trans (congrArg some (by kernel_rfl))⟩,
  f15 := Tryz.func139.trans (congrArg some (by kernel_rfl)),
  f20 := ⟨Tryz.f157.name, by decide, Tryz.func157.trans (congrArg some (by kernel_rfl))⟩,
  f21 := ⟨Tryz.f158.name, by decide, Tryz.func158.trans (congrArg some (by kernel_rfl))⟩,
  f22 := ⟨Tryz.f159.name, by decide, Tryz.func159.trans (congrArg some (by kernel_rfl))⟩,
  f23 := ⟨Tryz.f160.name, by decide, Tryz.func160.trans (congrArg some (by kernel_rfl))⟩,
  f24 := ⟨Tryz.f161.name, by decide, Tryz.func161.trans (congrArg some (by kernel_rfl))⟩,
  f25 := ⟨Tryz.f162.name, by decide, Tryz.func162.trans (congrArg some (by kernel_rfl))⟩,
  f26 := ⟨Tryz.f163.name, by decide, Tryz.func163.trans (congrArg some (by kernel_rfl))⟩,
  f27 := ⟨Tryz.f164.name, by decide, Tryz.func164.trans (congrArg some (by kernel_rfl))⟩,
  f28 := Tryz.func165.trans (congrArg some (by kernel_rfl)),
  f29 := Tryz.func166.trans (congrArg some (by kernel_rfl)),
  f46 := ⟨Tryz.f181.name, by decide, Tryz.func181.trans (congrArg some (by kernel_rfl))⟩,
  f47 := Tryz.func182.trans (congrArg some (by kernel_rfl)),
  f48 := Tryz.func183.trans (congrArg some (by kernel_rfl)),
  f49 := ⟨Tryz.f184.name, by decide, Tryz.func184.trans (congrArg some (by kernel_rfl))⟩,
  f50 := ⟨Tryz.f185.name, by decide, Tryz.func185.trans (congrArg some (by kernel_rfl))⟩,
  f57 := ⟨Tryz.f191.name, by decide, Tryz.func191.trans (congrArg some (by kernel_rfl))⟩,
  t0 := Tryz.underlying0,
  a0 := Tryz.isAgg0,
  z0 := Tryz.sizeOf0,
  v0 := Tryz.zeroValue0,
  t3 := Tryz.underlying3,
  a3 := Tryz.isAgg3,
  z3 := Tryz.sizeOf3,
  v3 := Tryz.zeroValue3,
  t4 := Tryz.underlying4,
  a4 := Tryz.isAgg4,
  z4 := Tryz.sizeOf4,
  v4 := Tryz.zeroValue4,
  t5 := Tryz.underlying5,
  a5 := Tryz.isAgg5,
  z5 := Tryz.sizeOf5,
  v5 := Tryz.zeroValue5,
  t9 := Tryz.underlying9,
  a9 := Tryz.isAgg9,
  z9 := Tryz.sizeOf9,
  v9 := Tryz.zeroValue9,
  t22 := Tryz.underlying32,
  a22 := Tryz.isAgg32,
  z22 := Tryz.sizeOf32,
  v22 := Tryz.zeroValue32,
  a24 := Tryz.isAgg27,
  z24 := Tryz.sizeOf27,
  t25 := Tryz.underlying111,
  a25 := Tryz.isAgg111,
  z25 := Tryz.sizeOf111,
  v25 := Tryz.zeroValue111,
  t39 := Tryz.underlying90,
  a39 := Tryz.isAgg90,
  z39 := Tryz.sizeOf90,
  v39 := Tryz.zeroValue90,
  t45 := Tryz.underlying153,
  a45 := Tryz.isAgg153,
  z45 := Tryz.sizeOf153,
  v45 := Tryz.zeroValue153,
  t46 := Tryz.underlying154,
  a46 := Tryz.isAgg154,
  z46 := Tryz.sizeOf154,
  v46 := Tryz.zeroValue154,
  t50 := Tryz.underlying30,
  a50 := Tryz.isAgg30,
  z50 := Tryz.sizeOf30,
  v50 := Tryz.zeroValue30,
  t53 := Tryz.underlying142,
  a53 := Tryz.isAgg142,
  z53 := Tryz.sizeOf142,
  v53 := Tryz.zeroValue142,
  t55 := Tryz.underlying63,
  a55 := Tryz.isAgg63,
  z55 := Tryz.sizeOf63,
  v55 := Tryz.zeroValue63,
  t66 := Tryz.underlying166,
  a66 := Tryz.isAgg166,
  z66 := Tryz.sizeOf166,
  v66 := Tryz.zeroValue166,
  t70 := Tryz.underlying170,
  a70 := Tryz.isAgg170,
  z70 := Tryz.sizeOf170,
  v70 := Tryz.zeroValue170,
  t76 := Tryz.underlying176,
  a76 := Tryz.isAgg176,
  z76 := Tryz.sizeOf176,
  v76 := Tryz.zeroValue176,
  t77 := Tryz.underlying177,
  a77 := Tryz.isAgg177,
  z77 := Tryz.sizeOf177,
  v77 := Tryz.zeroValue177 }
def Tryz.sortedL_ren : Go.Shelf.Ren := ⟨fun | 6 => 113 | 8 => 146 | 9 => 106 | 11 => 178 | 13 => 139 | 12 => 143 | 23 => 165 | 24 => 166 | 14 => 169 | 15 => 170 | 16 => 171 | 17 => 172 | 18 => 173 | 19 => 174 | 20 => 175 | 21 => 176 | 22 => 177 | 25 => 186 | 26 => 182 | 27 => 183 | 28 => 187 | 29 => 188 | 30 => 167 | 31 => 192 | n => n, fun | 26 => 3 | 28 => 120 | 24 => 27 | 0 => 0 | 3 => 3 | 37 => 90 | 48 => 142 | 50 => 63 | 4 => 4 | 40 => 154 | 39 => 153 | 45 => 30 | 5 => 5 | 9 => 9 | 51 => 166 | 55 => 170 | 57 => 176 | 58 => 177 | 33 => 79 | n => n, fun | n => n⟩
theorem Tryz.sortedL : Go.Proofs.SlLaysZI.n6 Tryz.prog Tryz.sortedL_ren := {
  mixed := by kernel_rfl,
  f6 := ⟨Tryz.f113.name, by decide, Tryz.func113.trans (congrArg some (by kernel_rfl))⟩,
  f8 := ⟨Tryz.f146.name, by decide, Tryz.func146.trans (congrArg some (by kernel_rfl))⟩,
  f11 := ⟨Tryz.f178.name, by decide, Tryz.func178.trans (congrArg some (by kernel_rfl))⟩,
  t0 := Tryz.underlying0,
  a0 := Tryz.isAgg0,
  z0 := Tryz.sizeOf0,
  v0 := Tryz.zeroValue0,
  t24 := Tryz.underlying27,
  a24 := Tryz.isAgg27,
  z24 := Tryz.sizeOf27,
  v24 := Tryz.zeroValue27,
  t26 := Tryz.underlying3,
  a26 := Tryz.isAgg3,
  z26 := Tryz.sizeOf3,
  v26 := Tryz.zeroValue3,
  t28 := Tryz.underlying120,
  a28 := Tryz.isAgg120,
  z28 := Tryz.sizeOf120,
  v28 := Tryz.zeroValue120,
  i26 := by kernel_rfl }
section
open Go.RowKit Go.Maps Go.PV
attribute [local go_sem] Oper.semAt_some
set_option maxRecDepth 100000 in
set_option maxHeartbeats 2000000 in
theorem Tryz.valsDo (n : Nat) (hn : 1 ≤ n) (Bs : Nat) (sv : Value) (zs : List Int) (w : World) (hreach : zs.length * 8 ≤ 140737488351232) (hBs : w.cell? ⟨Bs, 0, none⟩ = some sv)
    (hI : ValsIn w sv zs) :
    SeqDoes Fence.wide n Tryz.prog 147 #[.pointer (some ⟨Bs, 0, none⟩)] zs w := by
  intro l J W hB hY h0
  have hBw := hB _ _ h0
  have hBl : Bs < w.heap.size := World.block_lt_of_cell? w _ hBs
  have hBs' := (hBw.cell (p := ⟨Bs, 0, none⟩) hBl).trans hBs
  rcases hI with ⟨A, c, rfl, rfl⟩ | ⟨b, off, cap, rfl, hb, hc⟩
  · refine callsIn_of_wp Tryz.func147 rfl trivial ?_ rfl
    simp only [Tryz.ntmps147, List.size_toArray, List.length_cons, List.length_nil, Nat.reduceAdd, Nat.reduceSub, Array.replicate_succ, Array.replicate_zero, List.push_toArray, List.append_toArray, List.nil_append, List.cons_append]
    gi_wp2
    gi_loopw [7] (fun i wr => i = .int .i64 0 ∧ J [] wr) (fun _ _ => 0)
    case atStart => exact ⟨rfl, h0⟩
    case round =>
      obtain ⟨rfl, hJs⟩ := hrel
      gi_wp2
      go_end0
      exact ⟨⟨_, rfl⟩, hJs⟩
  · refine callsIn_of_wp Tryz.func147 rfl trivial ?_ rfl
    simp only [Tryz.ntmps147, List.size_toArray, List.length_cons, List.length_nil, Nat.reduceAdd, Nat.reduceSub, Array.replicate_succ, Array.replicate_zero, List.push_toArray, List.append_toArray, List.nil_append, List.cons_append]
    gi_wp2
    gi_loopw [7] (fun i wr => ∃ k : Nat, k ≤ zs.length ∧ i = .int .i64 k ∧ J (zs.take k) wr) (fun i _ => zs.length - natOfV i)
    case atStart => exact ⟨0, Nat.zero_le _, rfl, h0⟩
    case round =>
      obtain ⟨k, hk, rfl, hJs⟩ := hrel
      have hnx := hB _ _ hJs
      have hcx : k < zs.length → wr.cell? ⟨b, off + k, none⟩ = some (.int .i64 (zs[k]?.getD 0)) := fun h => (hnx.cell (p := ⟨b, off + k, none⟩) hb).trans (hc k h)
      by_cases hlt : k < zs.length
      · obtain ⟨fn, tmps, assign, body, hy, hR⟩ := hY _ (zs[k]?.getD 0) wr hJs (by rw [List.length_take]; omega)
        have hcx' := hcx hlt
        have hnext : zs.take k ++ [zs[k]?.getD 0] = zs.take (k + 1) := by rw [List.take_add_one, List.getElem?_eq_getElem hlt]; rfl
        obtain ⟨x, hx⟩ : ∃ x, zs[k]?.getD 0 = x := ⟨_, rfl⟩
        rw [hx] at hy hR hcx' hnext
        clear hx hcx hc
        gi_wp2
        refine hR.mono ?_
        rintro e W3 ⟨rfl, hJ3⟩
        gi_wp2
        go_roundw
        case rel => exact ⟨k + 1, by omega, by simp, by rw [← hnext]; exact hJ3⟩
        case measure => simp [natOfV]; omega
      · obtain rfl : k = zs.length := by omega
        gi_wp2
        go_end0
        rw [List.take_length] at hJs
        exact ⟨⟨_, rfl⟩, hJs⟩
theorem Tryz.sortedAt : SortedAt Tryz.prog 113 147 (Tryz.sortedL_ren.t 26) := fun Bs sv zs w hl hb hv =>
  sortedD (ρ := Tryz.sortedL_ren) Tryz.sortedL 9 (by omega) (show SortsI Tryz.prog 106 from sortsI Tryz.sortIL) (show SortsINone Tryz.prog 106 from sortsINone Tryz.sortIL) Tryz.call106 147 _ Tryz.call147 zs (by simp only [maxLen]; omega) (by omega) w (Tryz.valsDo _ (by omega) Bs sv zs w (by omega) hb hv)
end
end Go.Proofs
