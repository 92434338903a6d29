/-
  slices.Sort at ints: the library's contract at this program (written by the kit's lay-plain.mjs). Conditions: the cells hold the ints, not frozen.
-/
import Derived.Shelf.Sort.Plain
import Derived.Ground.Names2Prog
import Derived.Shelf.Slices.In.SortNone
import Derived.Sort.OwnSortedInts
import Derived.Test.YtnplnfkmcfalhaaGreatDoorGdU
namespace Go.Proofs.YtnplnfkmcfalhaaGreatDoor
set_option linter.unusedVariables false
set_option linter.unusedSimpArgs false
open Go.Shelf
def so189_ren : Go.Shelf.Ren := ⟨fun | 189 => 27 | 125 => 47 | 257 => 46 | 128 => 70 | 129 => 71 | 294 => 61 | 295 => 62 | 296 => 63 | 297 => 64 | 298 => 65 | 299 => 66 | 216 => 67 | 300 => 68 | 301 => 69 | 328 => 82 | 329 => 83 | 330 => 84 | 331 => 85 | 332 => 86 | 215 => 56 | 343 => 96 | n => n, fun | 28 => 60 | 3 => 3 | 46 => 118 | 0 => 0 | 51 => 142 | 53 => 144 | 4 => 4 | 183 => 135 | 182 => 134 | 131 => 26 | 5 => 5 | 9 => 9 | 218 => 155 | 222 => 159 | 228 => 169 | 229 => 170 | n => n, fun | n => n⟩
theorem so189 : Go.Proofs.Lays.n189 Tryz.prog so189_ren := {
  mixed := by kernel_rfl
  f125 := Tryz.func47.trans (congrArg some (by kernel_rfl))
  f128 := Tryz.func70.trans (congrArg some (by kernel_rfl))
  f129 := Tryz.func71.trans (congrArg some (by kernel_rfl))
  f189 := Tryz.func27.trans (congrArg some (by kernel_rfl))
  f215 := Tryz.func56.trans (congrArg some (by kernel_rfl))
  f216 := Tryz.func67.trans (congrArg some (by kernel_rfl))
  f257 := Tryz.func46.trans (congrArg some (by kernel_rfl))
  f294 := Tryz.func61.trans (congrArg some (by kernel_rfl))
  f295 := Tryz.func62.trans (congrArg some (by kernel_rfl))
  f296 := Tryz.func63.trans (congrArg some (by kernel_rfl))
  f297 := Tryz.func64.trans (congrArg some (by kernel_rfl))
  f298 := Tryz.func65.trans (congrArg some (by kernel_rfl))
  f299 := Tryz.func66.trans (congrArg some (by kernel_rfl))
  f300 := Tryz.func68.trans (congrArg some (by kernel_rfl))
  f301 := Tryz.func69.trans (congrArg some (by kernel_rfl))
  f328 := Tryz.func82.trans (congrArg some (by kernel_rfl))
  f329 := Tryz.func83.trans (congrArg some (by kernel_rfl))
  f330 := Tryz.func84.trans (congrArg some (by kernel_rfl))
  f331 := Tryz.func85.trans (congrArg some (by kernel_rfl))
  f332 := Tryz.func86.trans (congrArg some (by kernel_rfl))
  f343 := Tryz.func96.trans (congrArg some (by kernel_rfl))
  t0 := Tryz.underlying0
  a0 := Tryz.isAgg0
  z0 := Tryz.sizeOf0
  v0 := Tryz.zeroValue0
  t3 := Tryz.underlying3
  a3 := Tryz.isAgg3
  z3 := Tryz.sizeOf3
  v3 := Tryz.zeroValue3
  t4 := Tryz.underlying4
  a4 := Tryz.isAgg4
  z4 := Tryz.sizeOf4
  v4 := Tryz.zeroValue4
  t5 := Tryz.underlying5
  a5 := Tryz.isAgg5
  z5 := Tryz.sizeOf5
  v5 := Tryz.zeroValue5
  t9 := Tryz.underlying9
  a9 := Tryz.isAgg9
  z9 := Tryz.sizeOf9
  v9 := Tryz.zeroValue9
  t28 := Tryz.underlying60
  a28 := Tryz.isAgg60
  z28 := Tryz.sizeOf60
  v28 := Tryz.zeroValue60
  t46 := Tryz.underlying118
  a46 := Tryz.isAgg118
  z46 := Tryz.sizeOf118
  v46 := Tryz.zeroValue118
  t51 := Tryz.underlying142
  a51 := Tryz.isAgg142
  z51 := Tryz.sizeOf142
  v51 := Tryz.zeroValue142
  t53 := Tryz.underlying144
  a53 := Tryz.isAgg144
  z53 := Tryz.sizeOf144
  v53 := Tryz.zeroValue144
  t131 := Tryz.underlying26
  a131 := Tryz.isAgg26
  z131 := Tryz.sizeOf26
  v131 := Tryz.zeroValue26
  t182 := Tryz.underlying134
  a182 := Tryz.isAgg134
  z182 := Tryz.sizeOf134
  v182 := Tryz.zeroValue134
  t183 := Tryz.underlying135
  a183 := Tryz.isAgg135
  z183 := Tryz.sizeOf135
  v183 := Tryz.zeroValue135
  t218 := Tryz.underlying155
  a218 := Tryz.isAgg155
  z218 := Tryz.sizeOf155
  v218 := Tryz.zeroValue155
  t222 := Tryz.underlying159
  a222 := Tryz.isAgg159
  z222 := Tryz.sizeOf159
  v222 := Tryz.zeroValue159
  t228 := Tryz.underlying169
  a228 := Tryz.isAgg169
  z228 := Tryz.sizeOf169
  v228 := Tryz.zeroValue169
  t229 := Tryz.underlying170
  a229 := Tryz.isAgg170
  z229 := Tryz.sizeOf170
  v229 := Tryz.zeroValue170 }
open Go.Sort Go.RowKit in
theorem sort_int (blk off cap : Nat) (zs : List Int) (w : World) (hH : Holds (Value.int .i64) w blk off zs.toArray) (hblk : blk < w.heap.size) (hsz : zs.length < 4611686018427387904) :
    Calls Tryz.prog 27 #[.slice (some ⟨blk, off, none⟩) zs.length cap] w fun e w' =>
      e = .returned (.tuple #[]) ∧ ∃ n os, w' = grow (putRow (Value.int .i64) (Sort.ahead w n) blk off (zs.mergeSort fun x y => decide (x ≤ y)).toArray) os := Any.slices_Sort_int so189 blk off cap zs w hH hblk hsz
theorem sortNone_any (a : Option Addr) (c : Nat) (w : World) : Calls Tryz.prog 27 #[.slice a 0 c] w fun e w' => e = .returned (.tuple #[]) ∧ w' = w :=
  Any.slices_Sort_int_none so189 a c w
open Go.RowKit
/-- In increasing order. -/
def srtI (l : List Int) : List Int := l.mergeSort fun x y => decide (x ≤ y)
theorem srtI_len (l : List Int) : (srtI l).length = l.length := List.length_mergeSort _
theorem mem_srtI {l : List Int} {x : Int} : x ∈ srtI l ↔ x ∈ l := List.mem_mergeSort
theorem sort_own (B : Nat) (v : Value) (l : List Int) (w : World) (hrow : w.ownsRow B 3 1 v l.length (l.flatMap celI)) (hl : ∀ x ∈ l, OkI x) (hn : l.length ≤ 1000000) :
    Calls Tryz.prog 27 #[v] w fun e w' => e = .returned (.tuple #[]) ∧ IRd w' v (srtI l) ∧ Below B w w' := by
  unfold srtI
  by_cases h0 : l = []
  · subst h0
    obtain ⟨A, c, rfl⟩ := (SR.of_row (cs := celI) (fun x => (celI_len x).1) hrow (by simp)).form
    refine (sortNone_any _ _ _).mono ?_
    rintro e w1 ⟨rfl, rfl⟩
    exact ⟨rfl, ⟨A, c, by simp, by simp, by simp, .inl (by simp)⟩, Below.refl _ _⟩
  · have hp : 0 < l.length := List.length_pos_iff.2 h0
    have hr2 := hrow
    rw [celI_map] at hr2
    rcases hr2.2 with ⟨-, h⟩ | ⟨g, cap, cur, rfl, hBg, hb, h1, h2, h3, h4⟩
    · omega
    · have htk : cur.toList.take l.length = l.map (Value.int .i64) := by rw [← h4, Nat.mul_one]
      have hH := Go.holds_of_blockI hb htk
      have hS := sort_int g 0 cap l w hH (Rg.lt_of_heap hb) (by omega)
      generalize hts : l.mergeSort (fun x y => decide (x ≤ y)) = ts at *
      have hlt : ts.length = l.length := by rw [← hts, List.length_mergeSort]
      have hmem : ∀ x ∈ ts, OkI x := fun x hx => hl x (by rw [← hts, List.mem_mergeSort] at hx; exact hx)
      have hg1 : ∀ q os, w.grownBy (Go.Sort.grow (Go.Sort.putRow (Value.int .i64) (Go.Sort.ahead w q) g 0 ts.toArray) os) (some g) := fun q os => Go.grownBy_sortedI ts.toArray
      have hHq : ∀ q os, Go.Sort.Holds (Value.int .i64) (Go.Sort.grow (Go.Sort.putRow (Value.int .i64) (Go.Sort.ahead w q) g 0 ts.toArray) os) g 0 ts.toArray := fun q os => Go.holds_of_blockI (Go.heap_sortedI _ hb) (Go.take_putCellsI cur ts (by omega))
      refine hS.mono ?_
      rintro e w1 ⟨rfl, q, os, hw1⟩
      subst hw1
      refine ⟨rfl, ⟨_, cap, by rw [hlt], by omega, hmem, .inr ⟨g, 0, rfl, fun k hk => ?_⟩⟩, ?_⟩
      · have := (hHq q os k (by simpa using hk)).1
        rw [this, getElem!_pos _ k (by simpa using hk)]
        simp
      · have hg := hg1 q os
        exact ⟨hg.os, hg.tape, hg.output, hg.size, fun k hk => hg.block k (by have := Rg.lt_of_heap hb; omega) (by simp; omega)⟩
end Go.Proofs.YtnplnfkmcfalhaaGreatDoor
