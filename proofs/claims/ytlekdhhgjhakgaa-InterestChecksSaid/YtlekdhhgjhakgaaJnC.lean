/-
  Joined: the lemmas of this claim that other texts of it use, part 3. Nothing is asked.
-/
import Derived.Test.YtlekdhhgjhakgaaJnB
import Derived.Shelf.Small.Bits
import Derived.Shelf.Small.Wraps
import Derived.Shelf.Strconv.Itoa0
import Derived.Shelf.Sort.Plain
import Derived.Shelf.Bits.Mul64
import Derived.Shelf.Slices.Turned
import Derived.Ground.Names2Prog
import Derived.Shelf.Slices.Clone
import Derived.Shelf.Slices.CompactI
import Derived.Shelf.Slices.SearchI
import Derived.Shelf.Slices.Cells
import Derived.Shelf.Slices.In.SortNone
import Derived.Ground.SlgnProg
import Derived.Shelf.SlicesE.Clone
import Derived.Sort.OwnSortedInts
import Derived.RangeFuncBox
import Derived.RangeFuncLeaves
import Derived.RangeFuncNested
import Derived.OwnWalkIn
import Derived.TacticsInMore
import Derived.LoopNIn
import Derived.LoopIn
import Derived.Maps.OwnIn
import Derived.Maps.AppendAt
import Derived.Deep.RegionLaw
namespace Go.Proofs.Ytlekdhhgjhakgaa
set_option linter.unusedVariables false
set_option linter.unusedSimpArgs false
open Go.RowKit
def natI (l : List Nat) : List Int := l.map Int.ofNat
theorem natI_len (l : List Nat) : (natI l).length = l.length := List.length_map _
def cel1 (v : Value) : List Value := [v]
/-- Rows of places, each in a block of its own. -/
structure MayR (B : Nat) (w : World) (mv : Value) (us : List Value) (ms : List (List Nat)) : Prop where
  row : w.ownsRow B 22 1 mv us.length (us.flatMap cel1)
  len : us.length = ms.length
  el : ∀ i (h : i < ms.length) (h' : i < us.length), w.ownsRow B 3 1 us[i] (natI ms[i]).length ((natI ms[i]).flatMap celI)
theorem MayR.ext {B : Nat} {w w' : World} {mv : Value} {us : List Value} {ms : List (List Nat)} (h : MayR B w mv us ms) (x : Ext w w') : MayR B w' mv us ms :=
  ⟨row_ext h.row x, h.len, fun i h1 h2 => row_ext (h.el i h1 h2) x⟩
theorem own_cell {B E sz n p o T : Nat} {w : World} {v : Value} {xs : List Value} {cs : Array Value} (h : w.ownsRow B E sz v n xs) (hp : w.heap[p]? = some (.cells cs T)) (hE : T ≠ E) (u : Value) : (w.setCell ⟨p, o, none⟩ u).ownsRow B E sz v n xs := by
  refine row_keepK h fun g e => heap_setCell_other u fun e2 => ?_
  subst e2
  obtain ⟨cs', hc⟩ := row_block h e
  rw [hp] at hc
  injection hc with hc
  injection hc with _ hc
  exact hE hc
theorem MayR.cell {B p o : Nat} {w : World} {mv : Value} {us : List Value} {ms : List (List Nat)} {cs : Array Value} (h : MayR B w mv us ms) (hp : w.heap[p]? = some (.cells cs 77)) (u : Value) : MayR B (w.setCell ⟨p, o, none⟩ u) mv us ms :=
  ⟨own_cell h.row hp (by decide) u, h.len, fun i h1 h2 => own_cell (h.el i h1 h2) hp (by decide) u⟩
theorem MayR.push {B : Nat} {w w' : World} {mv mv' u : Value} {us : List Value} {ms : List (List Nat)} {l : List Nat} (h : MayR B w mv us ms) (hu : w.ownsRow B 3 1 u (natI l).length ((natI l).flatMap celI))
    (hg : w.grownBy w' mv.ownBlock) (hr : w'.ownsRow B 22 1 mv' (us ++ [u]).length ((us ++ [u]).flatMap cel1)) : MayR B w' mv' (us ++ [u]) (ms ++ [l]) := by
  have hk : ∀ {v : Value} {xs : List Value} {n : Nat}, w.ownsRow B 3 1 v n xs → w'.ownsRow B 3 1 v n xs := fun {v xs n} hv => row_keepK hv fun g e => by
    obtain ⟨cs, hc⟩ := row_block hv e
    exact (row_other h.row (by decide) hg hc).trans hc.symm
  refine ⟨hr, by simp [h.len], fun i h1 h2 => ?_⟩
  by_cases e : i < ms.length
  · have e2 : i < us.length := by rw [h.len]; exact e
    rw [List.getElem_append_left e2, List.getElem_append_left e]
    exact hk (h.el i e e2)
  · have e2 : i = us.length := by have := h.len; simp at h1; omega
    have e3 : i = ms.length := by have := h.len; omega
    subst e2
    have h4 : (ms ++ [l])[us.length]'h1 = l := by
      rw [List.getElem_append_right (by omega)]
      simp
    rw [h4]
    simpa using hk hu
/-- A desk. -/
structure Dk (B : Nat) (w : World) (p : Nat) (ids : List Int) (ms : List (List Nat)) (each : Int) (iv mv : Value) (us : List Value) : Prop where
  at_ : w.heap[p]? = some (.cells #[iv, mv, .int .i64 each] 77)
  ids : IRd w iv ids
  may : MayR B w mv us ms
theorem Dk.ext {B p : Nat} {w w' : World} {ids : List Int} {ms : List (List Nat)} {each : Int} {iv mv : Value} {us : List Value} (h : Dk B w p ids ms each iv mv us) (x : Ext w w') : Dk B w' p ids ms each iv mv us :=
  ⟨(x.block _ (Rg.lt_of_heap h.at_)).trans h.at_, h.ids.ext x, h.may.ext x⟩
def mayK (s : Su) (ids : List Int) (b : Int) (j : Nat) : List Nat := (List.range j).filter fun k => !confF s (ids.getD k 0) b
theorem mayK_succ (s : Su) (ids : List Int) (b : Int) (j : Nat) (h : j < ids.length) : mayK s ids b (j + 1) = mayK s ids b j ++ (if (!confF s ids[j] b) = true then [j] else []) := by
  unfold mayK
  have e : ids.getD j 0 = ids[j] := by simp [List.getD, h]
  rw [List.range_succ, List.filter_append]
  congr 1
  rw [List.filter_cons, e]
  split <;> rfl
theorem mayK_len (s : Su) (ids : List Int) (b : Int) (j : Nat) : (mayK s ids b j).length ≤ j := by
  unfold mayK
  exact Nat.le_trans (List.length_filter_le _ _) (by simp)
theorem ird_ok {w : World} {v : Value} {zs : List Int} (h : IRd w v zs) : ∀ z ∈ zs, OkI z := by
  obtain ⟨A, cap, h1, h2, h3, h4⟩ := h
  exact h3
theorem row_formG {B E sz n : Nat} {w : World} {v : Value} {xs : List Value} (h : w.ownsRow B E sz v n xs) : ∃ A cap, v = .slice A n cap := by
  rcases h.2 with ⟨rfl, rfl⟩ | ⟨g, cap, cur, rfl, -⟩
  · exact ⟨none, 0, rfl⟩
  · exact ⟨_, cap, rfl⟩
theorem row_mono {B B' E sz n : Nat} {w : World} {v : Value} {xs : List Value} (h : w.ownsRow B E sz v n xs) (hB : B' ≤ B) : w.ownsRow B' E sz v n xs :=
  ⟨h.1, h.2.imp id fun ⟨g, cap, cur, hv, hb, r⟩ => ⟨g, cap, cur, hv, Nat.le_trans hB hb, r⟩⟩
theorem MayR.mono {B B' : Nat} {w : World} {mv : Value} {us : List Value} {ms : List (List Nat)} (h : MayR B w mv us ms) (hB : B' ≤ B) : MayR B' w mv us ms :=
  ⟨row_mono h.row hB, h.len, fun i h1 h2 => row_mono (h.el i h1 h2) hB⟩
end Go.Proofs.Ytlekdhhgjhakgaa

namespace Go.Proofs.Ytlekdhhgjhakgaa
set_option linter.unusedVariables false
set_option linter.unusedSimpArgs false
open Go.Shelf
def sh_lays128_ren : Go.Shelf.Ren := ⟨fun | 128 => 80 | n => n, fun | 51 => 115 | 3 => 3 | 4 => 4 | 46 => 106 | 5 => 5 | 9 => 9 | n => n, fun | n => n⟩
theorem sh_lays128 : Go.Proofs.Lays.n128 Try.prog sh_lays128_ren := {
  mixed := by kernel_rfl
  f128 := Try.func80.trans (congrArg some (by kernel_rfl))
  t3 := Try.underlying3
  a3 := Try.isAgg3
  z3 := Try.sizeOf3
  v3 := Try.zeroValue3
  t4 := Try.underlying4
  a4 := Try.isAgg4
  z4 := Try.sizeOf4
  v4 := Try.zeroValue4
  t5 := Try.underlying5
  a5 := Try.isAgg5
  z5 := Try.sizeOf5
  v5 := Try.zeroValue5
  t9 := Try.underlying9
  a9 := Try.isAgg9
  z9 := Try.sizeOf9
  v9 := Try.zeroValue9
  t46 := Try.underlying106
  a46 := Try.isAgg106
  z46 := Try.sizeOf106
  v46 := Try.zeroValue106
  t51 := Try.underlying115
  a51 := Try.isAgg115
  z51 := Try.sizeOf115
  v51 := Try.zeroValue115 }
theorem sh_bits_Len32 (x : Int) (w : World) (h0 : 0 ≤ x) (h1 : x ≤ 4294967295) :
    Calls Try.prog 80 #[.int .u32 x] w fun e w' => e = .returned (.int .i64 (Lib.bitLen x.toNat)) ∧ w' = w := Any.bits_Len32 sh_lays128 x w h0 h1
def sh_lays125_ren : Go.Shelf.Ren := ⟨fun | 125 => 67 | 128 => 80 | 129 => 81 | n => n, fun | 46 => 106 | 3 => 3 | 51 => 115 | 53 => 118 | 4 => 4 | 5 => 5 | 9 => 9 | n => n, fun | n => n⟩
theorem sh_lays125 : Go.Proofs.Lays.n125 Try.prog sh_lays125_ren := {
  mixed := by kernel_rfl
  f125 := Try.func67.trans (congrArg some (by kernel_rfl))
  f128 := Try.func80.trans (congrArg some (by kernel_rfl))
  f129 := Try.func81.trans (congrArg some (by kernel_rfl))
  t3 := Try.underlying3
  a3 := Try.isAgg3
  z3 := Try.sizeOf3
  v3 := Try.zeroValue3
  t4 := Try.underlying4
  a4 := Try.isAgg4
  z4 := Try.sizeOf4
  v4 := Try.zeroValue4
  t5 := Try.underlying5
  a5 := Try.isAgg5
  z5 := Try.sizeOf5
  v5 := Try.zeroValue5
  t9 := Try.underlying9
  a9 := Try.isAgg9
  z9 := Try.sizeOf9
  v9 := Try.zeroValue9
  t46 := Try.underlying106
  a46 := Try.isAgg106
  z46 := Try.sizeOf106
  v46 := Try.zeroValue106
  t51 := Try.underlying115
  a51 := Try.isAgg115
  z51 := Try.sizeOf115
  v51 := Try.zeroValue115
  t53 := Try.underlying118
  a53 := Try.isAgg118
  z53 := Try.sizeOf118
  v53 := Try.zeroValue118 }
theorem sh_bits_Len (x : Int) (w : World) (h0 : 0 ≤ x) (h1 : x ≤ 18446744073709551615) :
    Calls Try.prog 67 #[.int .u64 x] w fun e w' => e = .returned (.int .i64 (Lib.bitLen x.toNat)) ∧ w' = w := Any.bits_Len sh_lays125 x w h0 h1
def sh_lays215_ren : Go.Shelf.Ren := ⟨fun | 215 => 87 | n => n, fun | 3 => 3 | 4 => 4 | n => n, fun | n => n⟩
theorem sh_lays215 : Go.Proofs.Lays.n215 Try.prog sh_lays215_ren := {
  mixed := by kernel_rfl
  f215 := Try.func87.trans (congrArg some (by kernel_rfl))
  t3 := Try.underlying3
  a3 := Try.isAgg3
  z3 := Try.sizeOf3
  v3 := Try.zeroValue3
  t4 := Try.underlying4
  a4 := Try.isAgg4
  z4 := Try.sizeOf4
  v4 := Try.zeroValue4 }
open Go.RowKit in
theorem sh_cmp_isNaN_int (x : Int) (w : World) :
    Calls Try.prog 87 #[.int .i64 x] w fun e w' => e = .returned (.bool false) ∧ w' = w := Any.cmp_isNaN_int sh_lays215 x w
def sh_lays129_ren : Go.Shelf.Ren := ⟨fun | 129 => 81 | n => n, fun | 53 => 118 | 3 => 3 | 4 => 4 | 46 => 106 | 5 => 5 | 9 => 9 | n => n, fun | n => n⟩
theorem sh_lays129 : Go.Proofs.Lays.n129 Try.prog sh_lays129_ren := {
  mixed := by kernel_rfl
  f129 := Try.func81.trans (congrArg some (by kernel_rfl))
  t3 := Try.underlying3
  a3 := Try.isAgg3
  z3 := Try.sizeOf3
  v3 := Try.zeroValue3
  t4 := Try.underlying4
  a4 := Try.isAgg4
  z4 := Try.sizeOf4
  v4 := Try.zeroValue4
  t5 := Try.underlying5
  a5 := Try.isAgg5
  z5 := Try.sizeOf5
  v5 := Try.zeroValue5
  t9 := Try.underlying9
  a9 := Try.isAgg9
  z9 := Try.sizeOf9
  v9 := Try.zeroValue9
  t46 := Try.underlying106
  a46 := Try.isAgg106
  z46 := Try.sizeOf106
  v46 := Try.zeroValue106
  t53 := Try.underlying118
  a53 := Try.isAgg118
  z53 := Try.sizeOf118
  v53 := Try.zeroValue118 }
theorem sh_bits_Len64 (x : Int) (w : World) (h0 : 0 ≤ x) (h1 : x ≤ 18446744073709551615) :
    Calls Try.prog 81 #[.int .u64 x] w fun e w' => e = .returned (.int .i64 (Lib.bitLen x.toNat)) ∧ w' = w := Any.bits_Len64 sh_lays129 x w h0 h1
def sh_lays189_ren : Go.Shelf.Ren := ⟨fun | 189 => 60 | 125 => 67 | 257 => 66 | 128 => 80 | 129 => 81 | 294 => 71 | 295 => 72 | 296 => 73 | 297 => 74 | 298 => 75 | 299 => 76 | 216 => 77 | 300 => 78 | 301 => 79 | 328 => 82 | 329 => 83 | 330 => 84 | 331 => 85 | 332 => 86 | 215 => 87 | 343 => 88 | n => n, fun | 28 => 22 | 3 => 3 | 46 => 106 | 0 => 0 | 51 => 115 | 53 => 118 | 4 => 4 | 183 => 124 | 182 => 123 | 131 => 129 | 5 => 5 | 9 => 9 | 218 => 133 | 222 => 137 | 228 => 139 | 229 => 140 | n => n, fun | n => n⟩
theorem sh_lays189 : Go.Proofs.Lays.n189 Try.prog sh_lays189_ren := {
  mixed := by kernel_rfl
  f125 := Try.func67.trans (congrArg some (by kernel_rfl))
  f128 := Try.func80.trans (congrArg some (by kernel_rfl))
  f129 := Try.func81.trans (congrArg some (by kernel_rfl))
  f189 := Try.func60.trans (congrArg some (by kernel_rfl))
  f215 := Try.func87.trans (congrArg some (by kernel_rfl))
  f216 := Try.func77.trans (congrArg some (by kernel_rfl))
  f257 := Try.func66.trans (congrArg some (by kernel_rfl))
  f294 := Try.func71.trans (congrArg some (by kernel_rfl))
  f295 := Try.func72.trans (congrArg some (by kernel_rfl))
  f296 := Try.func73.trans (congrArg some (by kernel_rfl))
  f297 := Try.func74.trans (congrArg some (by kernel_rfl))
  f298 := Try.func75.trans (congrArg some (by kernel_rfl))
  f299 := Try.func76.trans (congrArg some (by kernel_rfl))
  f300 := Try.func78.trans (congrArg some (by kernel_rfl))
  f301 := Try.func79.trans (congrArg some (by kernel_rfl))
  f328 := Try.func82.trans (congrArg some (by kernel_rfl))
  f329 := Try.func83.trans (congrArg some (by kernel_rfl))
  f330 := Try.func84.trans (congrArg some (by kernel_rfl))
  f331 := Try.func85.trans (congrArg some (by kernel_rfl))
  f332 := Try.func86.trans (congrArg some (by kernel_rfl))
  f343 := Try.func88.trans (congrArg some (by kernel_rfl))
  t0 := Try.underlying0
  a0 := Try.isAgg0
  z0 := Try.sizeOf0
  v0 := Try.zeroValue0
  t3 := Try.underlying3
  a3 := Try.isAgg3
  z3 := Try.sizeOf3
  v3 := Try.zeroValue3
  t4 := Try.underlying4
  a4 := Try.isAgg4
  z4 := Try.sizeOf4
  v4 := Try.zeroValue4
  t5 := Try.underlying5
  a5 := Try.isAgg5
  z5 := Try.sizeOf5
  v5 := Try.zeroValue5
  t9 := Try.underlying9
  a9 := Try.isAgg9
  z9 := Try.sizeOf9
  v9 := Try.zeroValue9
  t28 := Try.underlying22
  a28 := Try.isAgg22
  z28 := Try.sizeOf22
  v28 := Try.zeroValue22
  t46 := Try.underlying106
  a46 := Try.isAgg106
  z46 := Try.sizeOf106
  v46 := Try.zeroValue106
  t51 := Try.underlying115
  a51 := Try.isAgg115
  z51 := Try.sizeOf115
  v51 := Try.zeroValue115
  t53 := Try.underlying118
  a53 := Try.isAgg118
  z53 := Try.sizeOf118
  v53 := Try.zeroValue118
  t131 := Try.underlying129
  a131 := Try.isAgg129
  z131 := Try.sizeOf129
  v131 := Try.zeroValue129
  t182 := Try.underlying123
  a182 := Try.isAgg123
  z182 := Try.sizeOf123
  v182 := Try.zeroValue123
  t183 := Try.underlying124
  a183 := Try.isAgg124
  z183 := Try.sizeOf124
  v183 := Try.zeroValue124
  t218 := Try.underlying133
  a218 := Try.isAgg133
  z218 := Try.sizeOf133
  v218 := Try.zeroValue133
  t222 := Try.underlying137
  a222 := Try.isAgg137
  z222 := Try.sizeOf137
  v222 := Try.zeroValue137
  t228 := Try.underlying139
  a228 := Try.isAgg139
  z228 := Try.sizeOf139
  v228 := Try.zeroValue139
  t229 := Try.underlying140
  a229 := Try.isAgg140
  z229 := Try.sizeOf140
  v229 := Try.zeroValue140 }
open Go.Sort Go.RowKit in
theorem sh_slices_Sort_int (blk off cap : Nat) (zs : List Int) (w : World) (hH : Holds (Value.int .i64) w blk off zs.toArray) (hblk : blk < w.heap.size) (hsz : zs.length < 4611686018427387904) :
    Calls Try.prog 60 #[.slice (some ⟨blk, off, none⟩) zs.length cap] w fun e w' =>
      e = .returned (.tuple #[]) ∧ ∃ n os, w' = grow (putRow (Value.int .i64) (Sort.ahead w n) blk off (zs.mergeSort fun x y => decide (x ≤ y)).toArray) os := Any.slices_Sort_int sh_lays189 blk off cap zs w hH hblk hsz
def sh_lays264_ren : Go.Shelf.Ren := ⟨fun | 264 => 69 | n => n, fun | 53 => 118 | 46 => 106 | n => n, fun | n => n⟩
theorem sh_lays264 : Go.Proofs.Lays.n264 Try.prog sh_lays264_ren := {
  mixed := by kernel_rfl
  f264 := Try.func69.trans (congrArg some (by kernel_rfl))
  t46 := Try.underlying106
  a46 := Try.isAgg106
  z46 := Try.sizeOf106
  v46 := Try.zeroValue106
  t53 := Try.underlying118
  a53 := Try.isAgg118
  z53 := Try.sizeOf118
  v53 := Try.zeroValue118 }
open Go.RowKit Go.Lib in
theorem sh_bits_Mul64 (x y : Nat) (hx : x < 18446744073709551616) (hy : y < 18446744073709551616) (w : World) :
    Calls Try.prog 69 #[.int .u64 x, .int .u64 y] w fun e w' => e = .returned (.tuple #[.int .u64 ((x * y / 18446744073709551616 : Nat) : Int), .int .u64 ((x * y % 18446744073709551616 : Nat) : Int)]) ∧ w' = w := Any.bits_Mul64 sh_lays264 x y hx hy w
def sh_lays212_ren : Go.Shelf.Ren := ⟨fun | 212 => 61 | 263 => 68 | 264 => 69 | n => n, fun | 46 => 106 | 51 => 115 | 146 => 116 | 53 => 118 | 148 => 119 | n => n, fun | n => n⟩
theorem sh_lays212 : Go.Proofs.Lays.n212 Try.prog sh_lays212_ren := {
  mixed := by kernel_rfl
  f212 := Try.func61.trans (congrArg some (by kernel_rfl))
  f263 := Try.func68.trans (congrArg some (by kernel_rfl))
  f264 := Try.func69.trans (congrArg some (by kernel_rfl))
  t46 := Try.underlying106
  a46 := Try.isAgg106
  z46 := Try.sizeOf106
  v46 := Try.zeroValue106
  t51 := Try.underlying115
  a51 := Try.isAgg115
  z51 := Try.sizeOf115
  v51 := Try.zeroValue115
  t53 := Try.underlying118
  a53 := Try.isAgg118
  z53 := Try.sizeOf118
  v53 := Try.zeroValue118
  t146 := Try.underlying116
  a146 := Try.isAgg116
  z146 := Try.sizeOf116
  v146 := Try.zeroValue116
  t148 := Try.underlying119
  a148 := Try.isAgg119
  z148 := Try.sizeOf119
  v148 := Try.zeroValue119 }
open Go.RowKit Go.Lib in
theorem sh_bits_Mul (x y : Nat) (hx : x < 18446744073709551616) (hy : y < 18446744073709551616) (w : World) :
    Calls Try.prog 61 #[.int .u64 x, .int .u64 y] w fun e w' => e = .returned (.tuple #[.int .u64 ((x * y / 18446744073709551616 : Nat) : Int), .int .u64 ((x * y % 18446744073709551616 : Nat) : Int)]) ∧ w' = w := Any.bits_Mul sh_lays212 x y hx hy w
def sh_lays108_ren : Go.Shelf.Ren := ⟨fun | 108 => 43 | n => n, fun | 28 => 22 | 3 => 3 | 0 => 0 | 4 => 4 | n => n, fun | n => n⟩
theorem sh_lays108 : Go.Proofs.Lays.n108 Try.prog sh_lays108_ren := {
  mixed := by kernel_rfl
  f108 := Try.func43.trans (congrArg some (by kernel_rfl))
  t0 := Try.underlying0
  a0 := Try.isAgg0
  z0 := Try.sizeOf0
  v0 := Try.zeroValue0
  t3 := Try.underlying3
  a3 := Try.isAgg3
  z3 := Try.sizeOf3
  v3 := Try.zeroValue3
  t4 := Try.underlying4
  a4 := Try.isAgg4
  z4 := Try.sizeOf4
  v4 := Try.zeroValue4
  t28 := Try.underlying22
  a28 := Try.isAgg22
  z28 := Try.sizeOf22
  v28 := Try.zeroValue22 }
open Go.Lib in
theorem sh_slices_Index_int (b off n c : Nat) (zs : List Int) (x : Int) (w : World) (hz : n ≤ zs.length) (hbig : n ≤ 9223372036854775807) (hc : ∀ j, j < zs.length → w.cell? ⟨b, off + j, none⟩ = some (.int .i64 (zs.getD j 0))) :
    Calls Try.prog 43 #[.slice (some ⟨b, off, none⟩) n c, .int .i64 x] w fun e w' => e = .returned (.int .i64 (Lib.idxOf (zs.take n) x)) ∧ w' = w := Any.slices_Index_int sh_lays108 b off n c zs x w hz hbig hc
open Go.Lib in
theorem sh_slices_Index_int_empty (a : Option Addr) (c : Nat) (x : Int) (w : World) :
    Calls Try.prog 43 #[.slice a 0 c, .int .i64 x] w fun e w' => e = .returned (.int .i64 (Lib.idxOf [] x)) ∧ w' = w := Any.slices_Index_int_empty sh_lays108 a c x w
def sh_lays107_ren : Go.Shelf.Ren := ⟨fun | 107 => 44 | 108 => 43 | n => n, fun | 28 => 22 | 3 => 3 | 4 => 4 | 0 => 0 | n => n, fun | n => n⟩
theorem sh_lays107 : Go.Proofs.Lays.n107 Try.prog sh_lays107_ren := {
  mixed := by kernel_rfl
  f107 := Try.func44.trans (congrArg some (by kernel_rfl))
  f108 := Try.func43.trans (congrArg some (by kernel_rfl))
  t0 := Try.underlying0
  a0 := Try.isAgg0
  z0 := Try.sizeOf0
  v0 := Try.zeroValue0
  t3 := Try.underlying3
  a3 := Try.isAgg3
  z3 := Try.sizeOf3
  v3 := Try.zeroValue3
  t4 := Try.underlying4
  a4 := Try.isAgg4
  z4 := Try.sizeOf4
  v4 := Try.zeroValue4
  t28 := Try.underlying22
  a28 := Try.isAgg22
  z28 := Try.sizeOf22
  v28 := Try.zeroValue22 }
open Go.Lib in
theorem sh_slices_Contains_int (b off n c : Nat) (zs : List Int) (x : Int) (w : World) (hz : n ≤ zs.length) (hbig : n ≤ 9223372036854775807) (hc : ∀ j, j < zs.length → w.cell? ⟨b, off + j, none⟩ = some (.int .i64 (zs.getD j 0))) :
    Calls Try.prog 44 #[.slice (some ⟨b, off, none⟩) n c, .int .i64 x] w fun e w' => e = .returned (.bool ((zs.take n).contains x)) ∧ w' = w := Any.slices_Contains_int sh_lays107 b off n c zs x w hz hbig hc
open Go.Lib in
theorem sh_slices_Contains_int_empty (a : Option Addr) (c : Nat) (x : Int) (w : World) :
    Calls Try.prog 44 #[.slice a 0 c, .int .i64 x] w fun e w' => e = .returned (.bool false) ∧ w' = w := Any.slices_Contains_int_empty sh_lays107 a c x w
def sh_laysNm215_ren : Go.Shelf.Ren := ⟨fun | 15 => 52 | n => n, fun | 22 => 22 | 3 => 3 | 4 => 4 | n => n, fun | n => n⟩
theorem sh_laysNm215 : Go.Proofs.Lays2.n15 Try.prog sh_laysNm215_ren := {
  mixed := by kernel_rfl
  f15 := Try.func52.trans (congrArg some (by kernel_rfl))
  t3 := Try.underlying3
  a3 := Try.isAgg3
  z3 := Try.sizeOf3
  v3 := Try.zeroValue3
  t4 := Try.underlying4
  a4 := Try.isAgg4
  z4 := Try.sizeOf4
  v4 := Try.zeroValue4
  t22 := Try.underlying22
  a22 := Try.isAgg22
  z22 := Try.sizeOf22
  v22 := Try.zeroValue22
  i3 := by kernel_rfl }
open Go.RowKit Go.Lib in
theorem sh_slices_Clone_int (b off n c : Nat) (zs : List Int) (w : World) (hz : n ≤ zs.length) (hbig : n * 8 ≤ 140737488355328) (hc : ∀ j, j < zs.length → w.cell? ⟨b, off + j, none⟩ = some (.int .i64 (zs.getD j 0))) :
    Calls Try.prog 52 #[.slice (some ⟨b, off, none⟩) n c] w fun e w' => ∃ v', e = .returned v' ∧ w'.ownsRow w.heap.size 3 1 v' n ((zs.take n).map (Value.int .i64)) ∧ v' ≠ .slice none 0 0 ∧ Below w.heap.size w w' := Any.slices_Clone_int sh_laysNm215 b off n c zs w hz hbig hc
open Go.RowKit Go.Lib in
theorem sh_slices_Clone_int_nil (n c : Nat) (w : World) :
    Calls Try.prog 52 #[.slice none n c] w fun e w' => e = .returned (.slice none 0 0) ∧ w' = w := Any.slices_Clone_int_nil sh_laysNm215 n c w
open Go.RowKit Go.Lib in
theorem sh_slices_Clone_int_zero (a : Addr) (c : Nat) (w : World) :
    Calls Try.prog 52 #[.slice (some a) 0 c] w fun e w' => ∃ v', e = .returned v' ∧ w'.ownsRow w.heap.size 3 1 v' 0 [] ∧ v' ≠ .slice none 0 0 ∧ Below w.heap.size w w' := Any.slices_Clone_int_zero sh_laysNm215 a c w
def sh_laysNm220_ren : Go.Shelf.Ren := ⟨fun | 20 => 59 | n => n, fun | 22 => 22 | 3 => 3 | 4 => 4 | 0 => 0 | n => n, fun | n => n⟩
theorem sh_laysNm220 : Go.Proofs.Lays2.n20 Try.prog sh_laysNm220_ren := {
  mixed := by kernel_rfl
  f20 := Try.func59.trans (congrArg some (by kernel_rfl))
  t0 := Try.underlying0
  a0 := Try.isAgg0
  z0 := Try.sizeOf0
  v0 := Try.zeroValue0
  t3 := Try.underlying3
  a3 := Try.isAgg3
  z3 := Try.sizeOf3
  v3 := Try.zeroValue3
  t4 := Try.underlying4
  a4 := Try.isAgg4
  z4 := Try.sizeOf4
  v4 := Try.zeroValue4
  t22 := Try.underlying22
  a22 := Try.isAgg22
  z22 := Try.sizeOf22
  v22 := Try.zeroValue22
  i3 := by kernel_rfl }
open Go.RowKit Go.Lib Go.Sort in
theorem sh_slices_Compact_int_arr (blk off cap : Nat) (d : Array Int) (w : World) (hH : Holds encI w blk off d) (hsz : d.size ≤ 9223372036854775807) (hcap : d.size ≤ cap) :
    Calls Try.prog 59 #[.slice (some ⟨blk, off, none⟩) d.size cap] w fun e w' => e = .returned (.slice (some ⟨blk, off, none⟩) (compactUpTo d d.size).length cap) ∧ ∃ q, w' = putRow encI (Sort.ahead w q) blk off (compactUpTo d d.size ++ List.replicate (d.size - (compactUpTo d d.size).length) 0).toArray := Any.slices_Compact_int_arr sh_laysNm220 blk off cap d w hH hsz hcap
open Go.RowKit Go.Lib Go.Sort in
theorem sh_slices_Compact_int (blk off cap : Nat) (zs : List Int) (w : World) (hH : Holds (Value.int .i64) w blk off zs.toArray) (hsz : zs.length ≤ 9223372036854775807) (hcap : zs.length ≤ cap) :
    Calls Try.prog 59 #[.slice (some ⟨blk, off, none⟩) zs.length cap] w fun e w' => e = .returned (.slice (some ⟨blk, off, none⟩) (Lib.compact zs).length cap) ∧ ∃ q, w' = putRow (Value.int .i64) (Sort.ahead w q) blk off (Lib.compact zs ++ List.replicate (zs.length - (Lib.compact zs).length) 0).toArray := Any.slices_Compact_int sh_laysNm220 blk off cap zs w hH hsz hcap
open Go.RowKit Go.Lib Go.Sort in
theorem sh_slices_Compact_int_empty (a : Option Addr) (cap : Nat) (w : World) :
    Calls Try.prog 59 #[.slice a 0 cap] w fun e w' => e = .returned (.slice a 0 cap) ∧ w' = w := Any.slices_Compact_int_empty sh_laysNm220 a cap w
def sh_laysNm237_ren : Go.Shelf.Ren := ⟨fun | 37 => 87 | n => n, fun | 3 => 3 | 4 => 4 | n => n, fun | n => n⟩
theorem sh_laysNm237 : Go.Proofs.Lays2.n37 Try.prog sh_laysNm237_ren := {
  mixed := by kernel_rfl
  f37 := Try.func87.trans (congrArg some (by kernel_rfl))
  t3 := Try.underlying3
  a3 := Try.isAgg3
  z3 := Try.sizeOf3
  v3 := Try.zeroValue3
  t4 := Try.underlying4
  a4 := Try.isAgg4
  z4 := Try.sizeOf4
  v4 := Try.zeroValue4 }
open Go.RowKit Go.Lib in
theorem sh_cmp_isNaN_int2 (x : Int) (w : World) :
    Calls Try.prog 87 #[.int .i64 x] w fun e w' => e = .returned (.bool false) ∧ w' = w := Any.cmp_isNaN_int2 sh_laysNm237 x w
def sh_laysNm231_ren : Go.Shelf.Ren := ⟨fun | 31 => 77 | 37 => 87 | n => n, fun | 3 => 3 | 4 => 4 | n => n, fun | n => n⟩
theorem sh_laysNm231 : Go.Proofs.Lays2.n31 Try.prog sh_laysNm231_ren := {
  mixed := by kernel_rfl
  f31 := Try.func77.trans (congrArg some (by kernel_rfl))
  f37 := Try.func87.trans (congrArg some (by kernel_rfl))
  t3 := Try.underlying3
  a3 := Try.isAgg3
  z3 := Try.sizeOf3
  v3 := Try.zeroValue3
  t4 := Try.underlying4
  a4 := Try.isAgg4
  z4 := Try.sizeOf4
  v4 := Try.zeroValue4 }
open Go.RowKit Go.Lib in
theorem sh_cmp_Less_int2 (x y : Int) (w : World) :
    Calls Try.prog 77 #[.int .i64 x, .int .i64 y] w fun e w' => e = .returned (.bool (decide (x < y))) ∧ w' = w := Any.cmp_Less_int2 sh_laysNm231 x y w
open Go.RowKit Go.Lib Go.Sort in
theorem sh_slices_Compact_int_cells (b off n c : Nat) (zs : List Int) (w : World) (hz : n ≤ zs.length) (hbig : n ≤ 9223372036854775807) (hcap : n ≤ c) (hc : ∀ j, j < zs.length → w.cell? ⟨b, off + j, none⟩ = some (.int .i64 (zs.getD j 0))) (hf : ∀ j, j < n → w.frozen? ⟨b, off + j, none⟩ = false) :
    Calls Try.prog 59 #[.slice (some ⟨b, off, none⟩) n c] w fun e w' => e = .returned (.slice (some ⟨b, off, none⟩) (Lib.compact (zs.take n)).length c) ∧ ∃ q, w' = (w.drewN q).setCells b off ((Lib.compact (zs.take n) ++ List.replicate (n - (Lib.compact (zs.take n)).length) 0).map (Value.int .i64)) := Any.slices_Compact_int_cells sh_laysNm220 b off n c zs w hz hbig hcap hc hf
open Go.RowKit Go.Sort in
theorem sh_slices_Sort_int_none (p : Option Addr) (cap : Nat) (w : World) :
    Calls Try.prog 60 #[.slice p 0 cap] w fun e w' => e = .returned (.tuple #[]) ∧ w' = w := Any.slices_Sort_int_none sh_lays189 p cap w
def sh_laysSlE041_f52_ren : Go.Shelf.Ren := ⟨fun | 41 => 52 | n => n, fun | 22 => 22 | 23 => 3 | 4 => 4 | n => n, fun | n => n⟩
theorem sh_laysSlE041_f52 : Go.Proofs.SlLaysE0.n41 Try.prog sh_laysSlE041_f52_ren := {
  mixed := by kernel_rfl
  f41 := ⟨Try.f52.name, by decide, Try.func52.trans (congrArg some (by kernel_rfl))⟩
  t4 := Try.underlying4
  a4 := Try.isAgg4
  z4 := Try.sizeOf4
  v4 := Try.zeroValue4
  t22 := Try.underlying22
  a22 := Try.isAgg22
  z22 := Try.sizeOf22
  v22 := Try.zeroValue22 }
open Go.RowKit Go.Lib in
theorem sh_slices_Clone (i0 : TypeInfo) (z : Value) (size bytes : Nat) (hi : Try.prog.info? 3 = some i0) (hz0 : i0.zero = some z) (hz1 : i0.size = size) (hz2 : i0.bytes = bytes) (hzs : z.cells.size = size) (hsz : 0 < size) (z23 : ∀ w, (Go.sizeOf 3).run Try.prog w = .ok size w) (b off n c : Nat) (news : List Value) (w : World) (hl : news.length = n * size) (hn : n ≤ maxLen) (hbig : n * bytes ≤ 140737488355328) (hc : ∀ j u, news[j]? = some u → w.cell? ⟨b, off + j, none⟩ = some u) (h1 : ∀ u ∈ news, u.oneCell' = true) :
    Calls Try.prog 52 #[.slice (some ⟨b, off, none⟩) n c] w fun e w' => ∃ v', e = .returned v' ∧ w'.ownsRow w.heap.size 3 size v' n news ∧ v' ≠ .slice none 0 0 ∧ Below w.heap.size w w' := AnyE.slices_Clone sh_laysSlE041_f52 i0 z size bytes hi hz0 hz1 hz2 hzs hsz z23 b off n c news w hl hn hbig hc h1
open Go.RowKit Go.Lib in
theorem sh_slices_Clone_nil (n c : Nat) (w : World) :
    Calls Try.prog 52 #[.slice none n c] w fun e w' => e = .returned (.slice none 0 0) ∧ w' = w := AnyE.slices_Clone_nil sh_laysSlE041_f52 n c w
end Go.Proofs.Ytlekdhhgjhakgaa

namespace Go.Proofs.Ytlekdhhgjhakgaa
set_option linter.unusedVariables false
set_option linter.unusedSimpArgs false
open Go.RowKit
theorem sort_own (B : Nat) (v : Value) (l : List Int) (w : World) (hrow : w.ownsRow B 3 1 v l.length (l.flatMap celI)) (hl : ∀ x ∈ l, OkI x) (hn : l.length ≤ 1000000) :
    Calls Try.prog 60 #[v] w fun e w' => e = .returned (.tuple #[]) ∧ IRd w' v (srtZ l) ∧ Below B w w' := by
  unfold srtZ
  by_cases h0 : l = []
  · subst h0
    obtain ⟨A, c, rfl⟩ := (SR.of_row (cs := celI) (fun x => (celI_len x).1) hrow (by simp)).form
    refine (sh_slices_Sort_int_none _ _ _).mono ?_
    rintro e w1 ⟨rfl, rfl⟩
    exact ⟨rfl, ⟨A, c, by simp, by simp, by simp, .inl (by simp)⟩, Below.refl _ _⟩
  · have hp : 0 < l.length := List.length_pos_iff.2 h0
    have hr2 := hrow
    rw [celI_map] at hr2
    rcases hr2.2 with ⟨-, h⟩ | ⟨g, cap, cur, rfl, hBg, hb, h1, h2, h3, h4⟩
    · omega
    · have htk : cur.toList.take l.length = l.map (Value.int .i64) := by rw [← h4, Nat.mul_one]
      have hH := Go.holds_of_blockI hb htk
      have hS := sh_slices_Sort_int g 0 cap l w hH (Rg.lt_of_heap hb) (by omega)
      generalize hts : l.mergeSort (fun x y => decide (x ≤ y)) = ts at *
      have hlt : ts.length = l.length := by rw [← hts, List.length_mergeSort]
      have hmem : ∀ x ∈ ts, OkI x := fun x hx => hl x (by rw [← hts, List.mem_mergeSort] at hx; exact hx)
      have hg1 : ∀ q os, w.grownBy (Go.Sort.grow (Go.Sort.putRow (Value.int .i64) (Go.Sort.ahead w q) g 0 ts.toArray) os) (some g) := fun q os => Go.grownBy_sortedI ts.toArray
      have hHq : ∀ q os, Go.Sort.Holds (Value.int .i64) (Go.Sort.grow (Go.Sort.putRow (Value.int .i64) (Go.Sort.ahead w q) g 0 ts.toArray) os) g 0 ts.toArray := fun q os => Go.holds_of_blockI (Go.heap_sortedI _ hb) (Go.take_putCellsI cur ts (by omega))
      refine hS.mono ?_
      rintro e w1 ⟨rfl, q, os, hw1⟩
      subst hw1
      refine ⟨rfl, ⟨_, cap, by rw [hlt], by omega, hmem, .inr ⟨g, 0, rfl, fun k hk => ?_⟩⟩, ?_⟩
      · have := (hHq q os k (by simpa using hk)).1
        rw [this, getElem!_pos _ k (by simpa using hk)]
        simp
      · have hg := hg1 q os
        exact ⟨hg.os, hg.tape, hg.output, hg.size, fun k hk => hg.block k (by have := Rg.lt_of_heap hb; omega) (by simp; omega)⟩
end Go.Proofs.Ytlekdhhgjhakgaa

namespace Go.Proofs.Ytlekdhhgjhakgaa
set_option linter.unusedVariables false
set_option linter.unusedSimpArgs false
open Go.RowKit
/-- Who has been seen, as the list goes on. -/
def seenF (seen : List Int) (x : Int) : Bool := decide (x ∈ seen)
theorem seenF_set (seen : List Int) (x : Int) : ∀ y, setF (seenF seen) x true y = seenF (x :: seen) y := by
  intro y
  unfold setF seenF
  by_cases e : y = x
  · simp [e]
  · simp [e]
theorem asrR_congr : ∀ (l : List Pe) {s t : List Int}, (∀ x, x ∈ s ↔ x ∈ t) → asrR l s = asrR l t
  | [], _, _, _ => rfl
  | p :: l, s, t, h => by
    have h2 : ∀ x, x ∈ p.id :: s ↔ x ∈ p.id :: t := fun x => by rw [List.mem_cons, List.mem_cons, h]
    unfold asrR
    by_cases e : p.id ∈ s
    · rw [if_pos e, if_pos ((h _).1 e), asrR_congr l h]
    · rw [if_neg e, if_neg (fun e2 => e ((h _).2 e2)), asrR_congr l h2]
theorem asrR_cons (p : Pe) (ps : List Pe) (seen : List Int) : asrR (p :: ps) seen = (if (!seenF seen p.id && p.role == 3) = true then [p.id] else []) ++ asrR ps (p.id :: seen) := by
  conv => lhs; unfold asrR
  unfold seenF
  by_cases h1 : p.id ∈ seen
  · rw [if_pos h1, asrR_congr ps (t := p.id :: seen) fun x => ?_]
    · simp [h1]
    · rw [List.mem_cons]
      exact ⟨.inr, fun h => h.elim (fun e => e ▸ h1) id⟩
  · rw [if_neg h1]
    by_cases h2 : p.role = 3
    · rw [if_pos h2]; simp [h1, h2]
    · rw [if_neg h2]; simp [h1, h2]
set_option maxRecDepth 100000 in
set_option maxHeartbeats 8000000 in
theorem assessors_any (c0 c1 c2 c3 c4 c5 : Value) (s : Su) (w : World) (h : SuV w c0 c1 c2 c3 c4 c5 s) :
    Calls Try.prog 50 #[.agg #[c0, c1, c2, c3, c4, c5]] w fun e w' => ∃ v, e = .returned v ∧ IRd w' v (asrF s.ps) ∧ Ext w w' := by
  obtain ⟨hps, hhs, hrs, ⟨q1, rfl⟩, ⟨q4, rfl⟩, ⟨q5, rfl⟩, hok⟩ := h
  obtain ⟨b0, n0, rfl⟩ := hps.form
  obtain ⟨b2, n2, rfl⟩ := hhs.form
  obtain ⟨b3, n3, rfl⟩ := hrs.form
  have HPS := Lib.hid hps; have HOK := Lib.hid hok
  have hnp := hok.np
  have hmm := @run_makeMap Try.prog
  obtain ⟨D, hD⟩ : ∃ D, D = w.heap.size := ⟨_, rfl⟩
  clear hps hhs hrs hok
  go_enter Try.func50, Try.ntmps50
  go_upto_region 1 with (fail)
  obtain ⟨row, hrow⟩ : ∃ row : Array Value, row = #[.slice b0 s.ps.length n0, .int .i64 q1, .slice b2 s.hs.length n2, .slice b3 s.rs.length n3, .int .i64 q4, .int .i64 q5] := ⟨_, rfl⟩
  have hrow0 : row[0]? = some (.slice b0 s.ps.length n0) := by rw [hrow]; rfl
  rw [← hrow]
  have hx1 : Ext w (w.alloc (.cells row 28)) := Ext.alloc (Ext.refl _) _
  have hb1 := alloc_at w (.cells row 28)
  have hs1 : (w.alloc (.cells row 28)).heap.size = D + 1 := by rw [hD]; simp
  rw [← hD] at hb1 ⊢
  generalize w.alloc (.cells row 28) = W1 at *
  have HB1 := Lib.hid hb1; have HX1 := Lib.hid hx1; have HS1 := Lib.hid hs1; have HR0 := Lib.hid hrow0; have HD := Lib.hid hD
  have HM1 : Hid (BM (W1.alloc (.map #[] 0)) (D + 1) (seenF [])) := Lib.hid (HS1.out ▸ (BM.made W1).congr fun x => rfl)
  clear hrow hrow0 hb1 hx1 hs1 hD
  go_upto_region 3 with (fail)
  have hxm : Ext W1 (W1.alloc (.map #[] 0)) := Ext.alloc (Ext.refl _) _
  have HX2 : Hid (Ext w (W1.alloc (.map #[] 0))) := Lib.hid (HX1.out.trans hxm)
  have c0 := cell_of_row _ D 0 _ _ _ ((hxm.block _ (Rg.lt_of_heap HB1.out)).trans HB1.out)
  rw [HR0.out] at c0
  rw [HS1.out]
  clear hxm HB1 HX1 HS1
  generalize W1.alloc (.map #[] 0) = W2 at *
  go_wp2_with (fail)
  clear c0
  go_loopw [4, 11] (fun o k wr => ∃ (i : Nat) (seen out : List Int), k = .int .i64 i ∧ i ≤ s.ps.length ∧ out.length ≤ i ∧ Hid (out ++ asrR (s.ps.drop i) seen = asrR s.ps []) ∧ Hid (wr.ownsRow D 3 1 o out.length (out.flatMap celI)) ∧ Hid (∀ x ∈ out, OkI x) ∧ Hid (BM wr (D + 1) (seenF seen)) ∧ Hid (Ext w wr)) (fun _ k _ => s.ps.length - (iof k).toNat)
  case atStart => exact ⟨0, [], [], rfl, by omega, by simp, Lib.hid (by simp), Lib.hid ⟨by simp, .inl ⟨rfl, rfl⟩⟩, Lib.hid (by simp), HM1, HX2⟩
  case round =>
    obtain ⟨i, seen, out, rfl, hi, hol, HE, HR, HO, HM, HX⟩ := hrel
    clear HM1 HX2
    obtain ⟨A, cap, rfl, hca, hcb, -⟩ := row_formI HR.out
    by_cases hil : i < s.ps.length
    · obtain ⟨g, rfl, hgl, d0, d1, d2⟩ := pe_at HPS.out i hil
      have o := (HOK.out.ps s.ps[i] (List.getElem_mem _)).1
      have HT : Hid (asrR (s.ps.drop i) seen = (if (!seenF seen s.ps[i].id && s.ps[i].role == 3) = true then [s.ps[i].id] else []) ++ asrR (s.ps.drop (i + 1)) (s.ps[i].id :: seen)) := Lib.hid (by rw [List.drop_eq_getElem_cons hil, asrR_cons])
      replace d0 := (HX.out.cells.1 _ _ hgl).trans d0
      replace d1 := (HX.out.cells.1 _ _ hgl).trans d1
      replace d2 := (HX.out.cells.1 _ _ hgl).trans d2
      replace hgl := Nat.lt_of_lt_of_le hgl HX.out.size
      generalize s.ps[i] = r at *
      obtain ⟨pi, pr, pp⟩ := r
      simp only at d0 d1 d2 o HT
      go_upto_region 6 with (fail)
      have hx4 : Ext wr (wr.alloc (.cells #[.int .i64 pi, .int .i64 pr, .int .i64 pp] 50)) := Ext.alloc (Ext.refl _) _
      have hb4 := alloc_at wr (.cells #[.int .i64 pi, .int .i64 pr, .int .i64 pp] 50)
      obtain ⟨gb, hgb⟩ : ∃ gb, gb = wr.heap.size := ⟨_, rfl⟩
      have KR := Lib.hid (row_ext HR.out hx4); have KM := Lib.hid (HM.out.ext hx4); have KX := Lib.hid (HX.out.trans hx4)
      rw [← hgb] at hb4 ⊢
      have KG := Lib.hid hb4
      clear hx4 hb4 hgb d0 d1 d2 hgl HR HM HX
      generalize wr.alloc (.cells #[.int .i64 pi, .int .i64 pr, .int .i64 pp] 50) = W4 at *
      have e0 := cell_of_row W4 gb 0 _ _ _ KG.out
      have e1 := cell_of_row W4 gb 1 _ _ _ KG.out
      change W4.cell? _ = some (.int .i64 pi) at e0
      change W4.cell? _ = some (.int .i64 pr) at e1
      have l1 := KM.out.look o W4 rfl
      cases h1 : seenF seen pi with
      | true =>
        rw [h1] at l1
        have HN : Hid (asrR (s.ps.drop i) seen = asrR (s.ps.drop (i + 1)) (pi :: seen)) := Lib.hid (by rw [HT.out, if_neg (by simp [h1]), List.nil_append])
        clear HT
        go_upto_region 9 with (refine wpList_putB rfl (.tmp 30) (.tmp 32) (.const (.bool true)) rfl (D + 1) _ (by rfl) KM.out pi (by rfl) o true (by rfl) ?_; intro W5 hn5 hg5)
        have HN5 := Lib.hid (hn5.congr (seenF_set seen pi)); have HR5 := Lib.hid (row_bm KR.out KM.out hg5); have HX5 := Lib.hid (grown_low KX.out (by have := HD.out; omega) hg5)
        clear hn5 hg5 KR KM KX KG e0 e1 l1
        go_wp2_with (fail)
        exact ⟨⟨i + 1, pi :: seen, out, by simp, by omega, by omega, Lib.hid (by rw [← HN.out]; exact HE.out), HR5, HO, HN5, HX5⟩, by simp [iof]; omega⟩
      | false =>
        rw [h1] at l1
        by_cases h2 : pr = 3
        · have HN : Hid (asrR (s.ps.drop i) seen = [pi] ++ asrR (s.ps.drop (i + 1)) (pi :: seen)) := Lib.hid (by rw [HT.out, if_pos (by simp [h1, h2])])
          clear HT
          go_upto_region 8 with (at_builtin; (refine append_g (cs := celI) (z := .int .i64 0) 22 3 8 Try.underlying22 (by kernel_rfl) (by rfl) (by decide) (by decide) rfl (.tmp 25) (.tmp 28) rfl D (.slice A out.length cap) out (by rfl) (row_ext KR.out (Ext.alloc (Ext.refl _) _)) W4.heap.size pi (celI_len _) (by rfl) (alloc_at W4 _) (by omega) (by have := KX.out.size; have := HD.out; simp; omega) ?_; intro g7 cap7 w7 hr7 hg7 hat7))
          have hxa : Ext W4 (W4.alloc (.cells #[.int .i64 pi] 3)) := Ext.alloc (Ext.refl _) _
          have h0 := row_ext KR.out hxa
          have HX7 : Hid (Ext w w7) := Lib.hid (row_grown (KX.out.trans hxa) h0 (Nat.le_of_eq HD.out.symm) hg7)
          have HM7 := Lib.hid (bm_row (KM.out.ext hxa) h0 hg7)
          have HG7 : Hid (w7.heap[gb]? = some (.cells #[.int .i64 pi, .int .i64 pr, .int .i64 pp] 50)) := Lib.hid (row_other h0 (by decide) hg7 ((hxa.block _ (Rg.lt_of_heap KG.out)).trans KG.out))
          have HR7 := Lib.hid hr7
          have HO7 : Hid (∀ x ∈ out ++ [pi], OkI x) := Lib.hid fun x hx => (List.mem_append.1 hx).elim (HO.out x) fun h => by rw [List.mem_singleton.1 h]; exact o
          clear hxa h0 hr7 hg7 hat7 KR KM KX KG e0 e1 l1
          have e0 := cell_of_row w7 gb 0 _ _ _ HG7.out
          change w7.cell? _ = some (.int .i64 pi) at e0
          go_upto_region 9 with (refine wpList_putB rfl (.tmp 30) (.tmp 32) (.const (.bool true)) rfl (D + 1) _ (by rfl) HM7.out pi (by rfl) o true (by rfl) ?_; intro W5 hn5 hg5)
          have HN5 := Lib.hid (hn5.congr (seenF_set seen pi)); have HR5 := Lib.hid (row_bm HR7.out HM7.out hg5); have HX5 := Lib.hid (grown_low HX7.out (by have := HD.out; omega) hg5)
          clear hn5 hg5 HR7 HM7 HX7 HG7 e0
          go_wp2_with (fail)
          exact ⟨⟨i + 1, pi :: seen, out ++ [pi], by simp, by omega, by simp; omega, Lib.hid (by rw [← HE.out, HN.out, List.append_assoc]), HR5, HO7, HN5, HX5⟩, by simp [iof]; omega⟩
        · have h2b : (pr == 3) = false := by simpa using h2
          have HN : Hid (asrR (s.ps.drop i) seen = asrR (s.ps.drop (i + 1)) (pi :: seen)) := Lib.hid (by rw [HT.out, if_neg (by simp [h2]), List.nil_append])
          clear HT
          go_upto_region 9 with (refine wpList_putB rfl (.tmp 30) (.tmp 32) (.const (.bool true)) rfl (D + 1) _ (by rfl) KM.out pi (by rfl) o true (by rfl) ?_; intro W5 hn5 hg5)
          have HN5 := Lib.hid (hn5.congr (seenF_set seen pi)); have HR5 := Lib.hid (row_bm KR.out KM.out hg5); have HX5 := Lib.hid (grown_low KX.out (by have := HD.out; omega) hg5)
          clear hn5 hg5 KR KM KX KG e0 e1 l1
          go_wp2_with (fail)
          exact ⟨⟨i + 1, pi :: seen, out, by simp, by omega, by omega, Lib.hid (by rw [← HN.out]; exact HE.out), HR5, HO, HN5, HX5⟩, by simp [iof]; omega⟩
    · obtain rfl : i = s.ps.length := by omega
      have HQ : Hid (out = asrR s.ps []) := Lib.hid (by have := HE.out; rw [List.drop_length] at this; simpa [asrR] using this)
      have hol2 : out.length ≤ 1000000 := by omega
      have HC := Lib.hid (sort_own D _ out wr HR.out HO.out hol2)
      clear HE HM HR
      go_wp2_with (go_at_call 60; (with_reducible refine HC.out.mono ?_); rintro e w1 ⟨rfl, hs1, hs2⟩)
      go_ret
      exact ⟨_, rfl, by unfold asrF; rw [← HQ.out]; exact hs1, Below.trans HX.out (HD.out ▸ hs2)⟩
end Go.Proofs.Ytlekdhhgjhakgaa

namespace Go.Proofs.Ytlekdhhgjhakgaa
set_option linter.unusedVariables false
set_option linter.unusedSimpArgs false
open Go.RowKit Go.Shelf

attribute [local go_sem] Oper.semAt_some
theorem wide_fn (f : FuncId) : Fence.wide.fn f := trivial
@[local simp, local go_sem] theorem wide_fn' (f : FuncId) : Fence.wide.fn f = True := rfl
@[local simp, local go_sem] theorem wide_depth : Fence.wide.depth = none := rfl
/-- The ints at A, below block B. -/
def RowI (B : Nat) (w : World) (A : Option Addr) (zs : List Int) : Prop := zs = [] ∨ ∃ b off, A = some ⟨b, off, none⟩ ∧ b < B ∧ ∀ k (h : k < zs.length), w.cell? ⟨b, off + k, none⟩ = some (.int .i64 zs[k])
theorem RowI.keep {B : Nat} {w w' : World} {A : Option Addr} {zs : List Int} (h : RowI B w A zs) (x : Below B w w') : RowI B w' A zs :=
  h.imp id fun ⟨b, off, ha, hb, hc⟩ => ⟨b, off, ha, hb, fun k hk => (x.cell (p := ⟨b, off + k, none⟩) hb).trans (hc k hk)⟩
theorem below_put {B : Nat} (W : World) (l : Nat) (o : Obj) (h : B ≤ l) : Below B W (W.putObj l o) := ⟨rfl, rfl, rfl, by simp [World.putObj], fun k hk => World.putObj_heap_other (by omega)⟩
set_option maxRecDepth 100000 in
set_option maxHeartbeats 1000000 in
/-- The iterator's rounds: the ints come in order. -/
theorem valsI_in (n : Nat) (hn : 1 ≤ n) (l Bm B : Nat) (A : Option Addr) (cap : Nat) (zs : List Int) (J Jx : List Int → World → Prop) (W : World)
    (hY : ∀ pre x W, J pre W → pre.length < zs.length → YieldAt Fence.wide (n - 1) Try.prog l #[encI x] W fun e W' => (e = .returned (.bool true) ∧ J (pre ++ [x]) W' ∧ Below B W W') ∨ (e = .returned (.bool false) ∧ Jx (pre ++ [x]) W'))
    (hm : W.cell? ⟨Bm, 0, none⟩ = some (.slice A zs.length cap)) (hM : RowI B W A zs) (hl1 : zs.length ≤ 1000000) (h0 : J [] W) :
    CallsIn Fence.wide n Try.prog 65 #[.func (.yield l) #[] #[], .pointer (some ⟨Bm, 0, none⟩)] W fun e W' => (∃ v, e = .returned v) ∧ ((∃ xs : List Int, xs = zs ∧ J xs W') ∨ (∃ pre, True ∧ Jx pre W')) := by
  refine callsIn_of_wp Try.func65 rfl (wide_fn 65) ?_ rfl
  simp only [Try.ntmps65, List.size_toArray, List.length_cons, List.length_nil, Nat.reduceAdd, Nat.reduceSub, Array.replicate_succ, Array.replicate_zero, List.push_toArray, List.append_toArray, List.nil_append, List.cons_append]
  gi_wp2
  gi_loopw [7] (fun k wr => ∃ i : Nat, k = .int .i64 i ∧ i ≤ zs.length ∧ J (zs.take i) wr ∧ Below B W wr) (fun k _ => zs.length - (iof k).toNat)
  case atStart => exact ⟨0, rfl, by omega, h0, Below.refl _ _⟩
  case round =>
    obtain ⟨i, rfl, hi, hJp, hb⟩ := hrel
    by_cases hil : i < zs.length
    · rcases hM with rfl | ⟨b, off, rfl, hbB, hc⟩
      · simp at hil
      have d0 := (hb.cell (p := ⟨b, off + i, none⟩) hbB).trans (hc i hil)
      have hYk := hY (zs.take i) zs[i] wr hJp (by rw [List.length_take]; omega)
      rw [← List.take_succ_eq_append_getElem hil] at hYk
      generalize zs[i] = x at *
      obtain ⟨fn, tmps, assign, body, hy, hR⟩ := hYk
      simp only [encI] at hy
      gi_wp2
      refine hR.mono ?_
      rintro e W3 (⟨rfl, hJ4, hk4⟩ | ⟨rfl, hJx4⟩)
      · gi_wp2
        go_roundw
        case rel => exact ⟨i + 1, by simp, by omega, hJ4, hb.trans hk4⟩
        case measure => simp [iof]; omega
      · gi_wp2
        refine bodyPost_ret (results_none rfl _ _ _) rfl ?_
        exact ⟨⟨_, rfl⟩, .inr ⟨_, trivial, hJx4⟩⟩
    · obtain rfl : i = zs.length := by omega
      rw [List.take_length] at hJp
      gi_wp2
      go_end0
      exact ⟨⟨_, rfl⟩, .inl ⟨zs, rfl, hJp⟩⟩
theorem valsI_stops (n : Nat) (hn : 1 ≤ n) (Bm B : Nat) (A : Option Addr) (cap : Nat) (zs : List Int) (w : World) (hB : Bm < B) (hBw : B ≤ w.heap.size) (hm : w.cell? ⟨Bm, 0, none⟩ = some (.slice A zs.length cap)) (hM : RowI B w A zs) (hl1 : zs.length ≤ 1000000) :
    SeqStopsK Fence.wide n Try.prog 65 #[.pointer (some ⟨Bm, 0, none⟩)] (fun x : Int => #[encI x]) (Below B) (fun xs => xs = zs) (fun _ => True) zs.length w := fun l J Jx W hW hJ _ hY h0 =>
  have hx : Below B w W := ⟨hW.os, hW.tape, hW.output, hW.size, fun k hk => hW.block k (Nat.lt_of_lt_of_le hk hBw)⟩
  valsI_in n hn l Bm B A cap zs J Jx W hY ((hx.cell (p := ⟨Bm, 0, none⟩) hB).trans hm) (hM.keep hx) hl1 h0

set_option maxRecDepth 100000 in
set_option maxHeartbeats 1000000 in
theorem appS_in (n : Nat) (hn : 2 ≤ n) (Bm : Nat) (A : Option Addr) (cap : Nat) (zs : List Int) (w : World) (hB : Bm < w.heap.size) (hm : w.cell? ⟨Bm, 0, none⟩ = some (.slice A zs.length cap)) (hM : RowI w.heap.size w A zs) (hl : zs.length ≤ 1000000) :
    CallsIn Fence.wide n Try.prog 70 #[.slice none 0 0, .func (.func 65) #[] #[.pointer (some ⟨Bm, 0, none⟩)]] w fun e w' => ∃ v : Value, e = .returned v ∧ w'.ownsRow w.heap.size 3 1 v zs.length (zs.flatMap celI) ∧ Ext w w' := by
  refine callsIn_of_wp_marks Try.func70 rfl (wide_fn 70) ?_ rfl
  simp only [Try.ntmps70, List.size_toArray, List.length_cons, List.length_nil, Nat.reduceAdd, Nat.reduceSub, Array.replicate_succ, Array.replicate_zero, List.push_toArray, List.append_toArray, List.nil_append, List.cons_append]
  gi_wp2
  have hbx : Boxed (w.alloc (.cells #[.slice none 0 0] 22)) w.heap.size 22 (.slice none 0 0) := Boxed.new w 22 _
  have hR0 : Below w.heap.size w (w.alloc (.cells #[.slice none 0 0] 22)) := (Below.refl _ w).alloc (Nat.le_refl _) _
  have hm0 := (hR0.cell (p := ⟨Bm, 0, none⟩) hB).trans hm
  have hM0 : RowI w.heap.size (w.alloc (.cells #[.slice none 0 0] 22)) A zs := hM.keep hR0
  obtain ⟨i0, hi, hz0, hz1, hz2⟩ := info_parts (show (Try.prog.info? 3).map (fun i => (i.zero, i.size, i.bytes)) = some (some (.int .i64 0), 1, 8) by kernel_rfl)
  generalize hW0 : w.alloc (.cells #[.slice none 0 0] 22) = W0 at *
  have hsz : W0.heap.size = w.heap.size + 1 := by rw [← hW0]; simp
  refine wpIn_rangeFunc_ownF rfl (by omega) (gf := 65) (lb := #[.pointer (some ⟨Bm, 0, none⟩)]) rfl (wide_fn 65) (enters_of Try.func65 (by kernel_rfl) rfl)
    (valsI_stops (n - 1) (by omega) Bm w.heap.size A cap zs W0 hB (by omega) hm0 hM0 hl) (fun h k => Below.trans h k) (fun W l o o' hl _ _ _ => below_put W l o' (by omega)) (Below.refl _ _) (fun _ => rfl)
    (fun pre W => ∃ v, Boxed W w.heap.size 22 v ∧ W.ownsRow w.heap.size 3 1 v pre.length (pre.flatMap celI) ∧ Below w.heap.size w W)
    (fun _ _ _ => False) ?hI (fun _ _ _ _ _ hs _ _ => hs) ⟨_, hbx, World.ownsRow_nil _ _ _ _, hR0⟩
    (fun x => { tmps := #[.slice none 0 0, .func (.func 65) #[] #[.pointer (some ⟨Bm, 0, none⟩)], .pointer (some ⟨w.heap.size, 0, none⟩), undef, .slice none 0 0, .int .i64 x, .func (.func 65) #[] #[.pointer (some ⟨Bm, 0, none⟩)], .int .i64 x, undef, undef, undef, undef, undef], defers := [] }) ?assign ?body ?done ?stop
  case hI =>
    intro pre W W' row hs hg hr
    obtain ⟨v, h1, h2, h3⟩ := hs
    refine ⟨v, h1.kept hg (fun e => by have := (hr _ e.symm).1; omega), row_keepK h2 (fun k hk => hg.block k (h2.lt k hk).2 (fun e => ?_)), h3.trans ⟨hg.os, hg.tape, hg.output, hg.size, fun k hk => hg.block k (by have := h3.size; omega) (fun e => by have := (hr _ e.symm).1; omega)⟩⟩
    obtain ⟨cs, hc⟩ := row_block h2 hk
    obtain ⟨-, ob, h4, h5⟩ := hr k e.symm
    rw [hc] at h4
    cases h4
    cases h5
  case assign =>
    intro l x W K hK
    gi_wp2
    exact hK
  case body =>
    rintro l pre x W ⟨v, h1, h2, h3⟩ hN
    obtain ⟨vb, vcp, rfl⟩ := (SR.of_row (cs := celI) (fun _ => rfl) h2 (by omega)).form
    have hc := h1.cell
    have hfz := h1.frozen
    skip
    gi_wp2_with (gi_at_builtin; refine wpListIn_append_own _ rfl _ _ 22 rfl w.heap.size 3 i0 _ 1 8 Try.underlying22 hi hz0 hz1 hz2 rfl (by decide) _ pre.length _ rfl (row_ext h2 (Ext.alloc (Ext.refl W) _)) ⟨W.heap.size, 0, none⟩ 1 1 (celI x) rfl rfl (fun j u hj => by rw [addr_add, cell_of_row _ _ _ _ _ _ (heap_alloc_new W _)]; simpa [celI] using hj) (by simp [celI, Value.oneCell']) (by unfold maxLen; omega) (by omega) (by have := h3.size; simp; omega) ?_; intro v' w1 hown' hgrow _; obtain ⟨g', cap', rfl⟩ := ownsRow_succ hown'; obtain ⟨hv1, hv2, hr2, hk2, hb2⟩ := h1.appended (by decide) h2 h3.size (Nat.le_refl _) hown' hgrow; have hc1 := hv1.cell; have hf1 := hv1.frozen)
    refine ⟨hk2, hb2, _, hv2, ?_, h3.trans hb2⟩
    rw [List.flatMap_append, List.length_append]
    simpa using hr2
  case done =>
    rintro D ys W hD rfl ⟨v, h1, h2, h3⟩ hK
    have hc := h1.cell
    obtain ⟨vb, vcp, rfl⟩ := (SR.of_row (cs := celI) (fun _ => rfl) h2 hl).form
    gi_wp2
    refine ⟨by simp, .inl ⟨_, _, rfl, run_takeDeferred hK, ?_⟩⟩
    refine ⟨_, results_tmp rfl _ _ _, _, rfl, row_keepK h2 (fun k hk => World.putObj_heap_other (fun e => ?_)), h3.trans (belowK_b (w := w) (Nat.le_refl _) W D _ _ (by omega) hK rfl rfl)⟩
    obtain ⟨cs, hcc⟩ := row_block h2 hk
    rw [e, hK] at hcc
    cases hcc
  case stop =>
    rintro D c pre W _ _ h _
    exact h.elim
theorem collectS (Bm : Nat) (A : Option Addr) (cap : Nat) (zs : List Int) (w : World) (hB : Bm < w.heap.size) (hm : w.cell? ⟨Bm, 0, none⟩ = some (.slice A zs.length cap)) (hM : RowI w.heap.size w A zs) (hl : zs.length ≤ 1000000) :
    Calls Try.prog 64 #[.func (.func 65) #[] #[.pointer (some ⟨Bm, 0, none⟩)]] w fun e w' => ∃ v : Value, e = .returned v ∧ w'.ownsRow w.heap.size 3 1 v zs.length (zs.flatMap celI) ∧ Ext w w' := by
  have hA := callsIn_wide.1 (appS_in 2 (Nat.le_refl _) Bm A cap zs w hB hm hM hl)
  go_enter Try.func64, Try.ntmps64
  go_wp2_with (go_at_call 70; (with_reducible refine hA.mono ?_); rintro e w2 ⟨v, rfl, hr, hx⟩)
  go_ret
  exact ⟨v, rfl, hr, hx⟩
end Go.Proofs.Ytlekdhhgjhakgaa

namespace Go.Proofs.Ytlekdhhgjhakgaa
set_option linter.unusedVariables false
set_option linter.unusedSimpArgs false
open Go.RowKit Go.Shelf
theorem cUT_len (d : Array Int) : ∀ m, (Lib.compactUpTo d m).length ≤ m ∧ ((Lib.compactUpTo d m).length = m ↔ ∀ j < m, Lib.keeps d j = true)
  | 0 => ⟨by simp [Lib.compactUpTo], by simp [Lib.compactUpTo]⟩
  | m + 1 => by
    obtain ⟨h1, h2⟩ := cUT_len d m
    rw [Lib.compactUpTo_succ, List.length_append]
    by_cases h : Lib.keeps d m = true
    · rw [if_pos h]
      simp only [List.length_singleton]
      refine ⟨by omega, ?_⟩
      rw [show ((Lib.compactUpTo d m).length + 1 = m + 1) ↔ ((Lib.compactUpTo d m).length = m) from by omega, h2]
      refine ⟨fun hk j hj => ?_, fun hk j hj => hk j (by omega)⟩
      by_cases e : j = m
      · rw [e]; exact h
      · exact hk j (by omega)
    · rw [if_neg h]
      simp only [List.length_nil]
      exact ⟨by omega, fun e => by omega, fun hk => absurd (hk m (by omega)) h⟩
theorem compact_nodup {l : List Int} (hs : l.Pairwise (· ≤ ·)) : (Lib.compact l).length = l.length ↔ l.Nodup := by
  rw [show (Lib.compact l).length = l.length ↔ _ from (cUT_len l.toArray l.length).2, List.Nodup, List.pairwise_iff_getElem]
  rw [List.pairwise_iff_getElem] at hs
  constructor
  · intro h i j hi hj hij e
    have hk := h j hj
    have h1 := hs i (j - 1) hi (by omega)
    have h2 := hs (j - 1) j (by omega) hj (by omega)
    have h3 : l[i] ≤ l[j - 1] := by
      by_cases e2 : i = j - 1
      · subst e2; exact Int.le_refl _
      · exact h1 (by omega)
    have h4 : l[j] = l[j - 1] := by omega
    rw [Lib.keeps_neg (by omega) (by rw [getElem!_pos l.toArray j (by simpa using hj), getElem!_pos l.toArray (j - 1) (by simp; omega)]; simpa using h4)] at hk
    cases hk
  · intro h j hj
    by_cases e : j = 0
    · exact Lib.keeps_lt_one _ _ (by omega)
    · refine Lib.keeps_pos ?_
      rw [getElem!_pos l.toArray j (by simpa using hj), getElem!_pos l.toArray (j - 1) (by simp; omega)]
      have := h (j - 1) j (by omega) hj (by omega)
      simpa using fun e => this e.symm
theorem sort_row (B : Nat) (v : Value) (l : List Int) (w : World) (hrow : w.ownsRow B 3 1 v l.length (l.flatMap celI)) (hn : l.length ≤ 1000000) :
    Calls Try.prog 60 #[v] w fun e w' => e = .returned (.tuple #[]) ∧ w'.ownsRow B 3 1 v (srtZ l).length ((srtZ l).flatMap celI) ∧ Below B w w' := by
  unfold srtZ
  rw [celI_map] at hrow
  rw [List.length_mergeSort, celI_map]
  rcases hrow.2 with ⟨rfl, h0⟩ | ⟨g, cap, cur, rfl, hBg, hb, h1, h2, h3, h4⟩
  · obtain rfl := List.length_eq_zero_iff.1 h0
    refine (sh_slices_Sort_int_none _ _ _).mono ?_
    rintro e w1 ⟨rfl, rfl⟩
    exact ⟨rfl, by simpa using hrow, Below.refl _ _⟩
  · have htk : cur.toList.take l.length = l.map (Value.int .i64) := by rw [← h4, Nat.mul_one]
    have hS := sh_slices_Sort_int g 0 cap l w (Go.holds_of_blockI hb htk) (Rg.lt_of_heap hb) (by omega)
    generalize hts : l.mergeSort (fun x y => decide (x ≤ y)) = ts at *
    have hlt : ts.length = l.length := by rw [← hts, List.length_mergeSort]
    refine hS.mono ?_
    rintro e w1 ⟨rfl, q, os, rfl⟩
    refine ⟨rfl, ⟨by simp [hlt], .inr ⟨g, cap, _, rfl, hBg, Go.heap_sortedI _ hb, h1, h2, by simp [Go.Sort.putCells, h3], by rw [Nat.mul_one, ← hlt]; exact Go.take_putCellsI cur ts (by omega)⟩⟩, ?_⟩
    have hg : w.grownBy _ (some g) := Go.grownBy_sortedI (n := q) (os := os) ts.toArray
    exact ⟨hg.os, hg.tape, hg.output, hg.size, fun k hk => hg.block k (by have := Rg.lt_of_heap hb; omega) (by simp; omega)⟩
theorem compact_own (B : Nat) (v : Value) (l : List Int) (w : World) (hrow : w.ownsRow B 3 1 v l.length (l.flatMap celI)) (hn : l.length ≤ 1000000) :
    Calls Try.prog 59 #[v] w fun e w' => ∃ a c, e = .returned (.slice a (Lib.compact l).length c) ∧ Below B w w' := by
  rw [celI_map] at hrow
  rcases hrow.2 with ⟨rfl, h0⟩ | ⟨g, cap, cur, rfl, hBg, hb, h1, h2, h3, h4⟩
  · obtain rfl := List.length_eq_zero_iff.1 h0
    refine (sh_slices_Compact_int_empty _ _ _).mono ?_
    rintro e w1 ⟨rfl, rfl⟩
    exact ⟨none, 0, rfl, Below.refl _ _⟩
  · have htk : cur.toList.take l.length = l.map (Value.int .i64) := by rw [← h4, Nat.mul_one]
    refine (sh_slices_Compact_int g 0 cap l w (Go.holds_of_blockI hb htk) (by omega) h1).mono ?_
    rintro e w1 ⟨rfl, q, rfl⟩
    refine ⟨_, cap, rfl, rfl, rfl, rfl, by simp [Go.Sort.putRow, Go.Sort.ahead, Go.Sort.mapBlock], fun k hk => ?_⟩
    have : g ≠ k := by omega
    simp [Go.Sort.putRow, Go.Sort.mapBlock, Go.Sort.ahead, Array.getElem?_modify, this]
theorem values_any (A : Option Addr) (n c : Nat) (w : World) : Calls Try.prog 58 #[.slice A n c] w fun e w' => e = .returned (.func (.func 65) #[] #[.pointer (some ⟨w.heap.size, 0, none⟩)]) ∧ w' = w.alloc (.cells #[.slice A n c] 22) := by
  go_enter Try.func58, Try.ntmps58
  go_wp2
  go_ret
  exact ⟨rfl, rfl⟩
theorem sorted_any (Bm : Nat) (A : Option Addr) (cap : Nat) (zs : List Int) (w : World) (hB : Bm < w.heap.size) (hm : w.cell? ⟨Bm, 0, none⟩ = some (.slice A zs.length cap)) (hM : RowI w.heap.size w A zs) (hl : zs.length ≤ 1000000) :
    Calls Try.prog 57 #[.func (.func 65) #[] #[.pointer (some ⟨Bm, 0, none⟩)]] w fun e w' => ∃ v : Value, e = .returned v ∧ w'.ownsRow w.heap.size 3 1 v (srtZ zs).length ((srtZ zs).flatMap celI) ∧ Ext w w' := by
  have hA := collectS Bm A cap zs w hB hm hM hl
  go_enter Try.func57, Try.ntmps57
  go_wp2_with (first
    | (go_at_call 64; (with_reducible refine hA.mono ?_); rintro e w2 ⟨v, rfl, hr, hx⟩)
    | (go_at_call 60; (with_reducible refine (sort_row _ _ zs _ hr hl).mono ?_); rintro e w3 ⟨rfl, hr3, hx3⟩))
  go_ret
  exact ⟨v, rfl, hr3, Below.trans hx hx3⟩
theorem IRd.rowI {w : World} {A : Option Addr} {n c : Nat} {zs : List Int} (h : IRd w (.slice A n c) zs) : RowI w.heap.size w A zs := by
  obtain ⟨A', cap, h1, h2, h3, h4⟩ := h
  injection h1 with e1 e2 e3
  subst e1
  by_cases h0 : zs = []
  · exact .inl h0
  · rcases h4 with h4 | ⟨b, off, ha, hc⟩
    · exact .inl h4
    · exact .inr ⟨b, off, ha, World.block_lt_of_cell? w _ (hc 0 (List.length_pos_iff.2 h0)), hc⟩
theorem RowI.mono {B B' : Nat} {w : World} {A : Option Addr} {zs : List Int} (h : RowI B w A zs) (hB : B ≤ B') : RowI B' w A zs :=
  h.imp id fun ⟨b, off, ha, hb, hc⟩ => ⟨b, off, ha, Nat.lt_of_lt_of_le hb hB, hc⟩
set_option maxRecDepth 100000 in
set_option maxHeartbeats 8000000 in
theorem right_any (v : Value) (bs : List Int) (each : Int) (w : World) (h : IRd w v bs) (hn : bs.length ≤ 1000000) :
    Calls Try.prog 49 #[v, .int .i64 each] w fun e w' => e = .returned (.bool (rightF bs each)) ∧ Ext w w' := by
  obtain ⟨A, cap, rfl⟩ : ∃ A cap, v = .slice A bs.length cap := by obtain ⟨A, cap, h1, -⟩ := h; exact ⟨A, cap, h1⟩
  have hR := h.rowI
  clear h
  go_enter Try.func49, Try.ntmps49
  have hx1 : Ext w (w.alloc (.cells #[.slice A bs.length cap] 22)) := Ext.alloc (Ext.refl _) _
  have hS := sorted_any w.heap.size A cap bs (w.alloc (.cells #[.slice A bs.length cap] 22)) (by simp) (cell_of_row _ _ 0 _ _ _ (alloc_at w _)) ((hR.keep hx1).mono (by simp)) hn
  go_upto_region 2 with (first
    | (go_at_call 58; (with_reducible refine (values_any A bs.length cap w).mono ?_); rintro e w1 ⟨rfl, rfl⟩)
    | (go_at_call 57; (with_reducible refine hS.mono ?_); rintro e w2 ⟨u, rfl, hr, hx⟩))
  have hlen : (srtZ bs).length = bs.length := (srtZ_perm bs).length_eq
  have hC := compact_own _ u (srtZ bs) w2 hr (by omega)
  have HX := Lib.hid (Ext.trans hx1 hx)
  have HSZ : Hid (w.heap.size ≤ (w.alloc (.cells #[.slice A bs.length cap] 22)).heap.size) := Lib.hid (by simp)
  generalize (w.alloc (.cells #[.slice A bs.length cap] 22)).heap.size = B at *
  obtain ⟨A2, cap2, rfl, -, -, -⟩ := row_formI hr
  have HND := Lib.hid (compact_nodup (srtZ_sorted bs))
  have HNE : Hid ((srtZ bs).Nodup ↔ bs.Nodup) := Lib.hid (srtZ_perm bs).nodup_iff
  have hcl := Lib.compact_length_le (srtZ bs)
  rw [hlen] at hC hcl HND ⊢
  clear hS hx1 hx hr
  have HC := Lib.hid hC
  clear hC hlen
  have HF : Hid (rightF bs each = (decide (0 < bs.length) && decide (bs.length ≤ 40) && decide bs.Nodup && decide (0 < each) && decide (each ≤ 13))) := Lib.hid rfl
  have HD : Hid (bs.Nodup ↔ (Lib.compact (srtZ bs)).length = bs.length) := Lib.hid (HNE.out.symm.trans HND.out.symm)
  generalize (Lib.compact (srtZ bs)).length = k at *
  clear HND HNE hR
  generalize bs.length = n at *
  by_cases e1 : 0 < n
  · by_cases e2 : n ≤ 40
    · have e2' : (n : Int) ≤ 40 := by omega
      by_cases e3 : k = n
      · subst e3
        have e3 : bs.Nodup := HD.out.2 rfl
        by_cases e4 : 0 < each
        · by_cases e5 : each ≤ 13
          · go_wp2_with (go_at_call 59; (with_reducible refine HC.out.mono ?_); rintro e w3 ⟨a, c, rfl, hx3⟩)
            go_ret
            exact ⟨by rw [HF.out]; first | (simp [e1, e2, e3, e4, e5]; done) | (simp [e1, e2, e3, e4, e5]; intros; omega), Below.trans HX.out (hx3.mono HSZ.out)⟩
          · go_wp2_with (go_at_call 59; (with_reducible refine HC.out.mono ?_); rintro e w3 ⟨a, c, rfl, hx3⟩)
            go_ret
            exact ⟨by rw [HF.out]; first | (simp [e1, e2, e3, e4, e5]; done) | (simp [e1, e2, e3, e4, e5]; intros; omega), Below.trans HX.out (hx3.mono HSZ.out)⟩
        · go_wp2_with (go_at_call 59; (with_reducible refine HC.out.mono ?_); rintro e w3 ⟨a, c, rfl, hx3⟩)
          go_ret
          exact ⟨by rw [HF.out]; first | (simp [e4]; done) | (simp [e4]; intros; omega), Below.trans HX.out (hx3.mono HSZ.out)⟩
      · have e3' : ¬ bs.Nodup := fun h => e3 (HD.out.1 h)
        have e3b : ((k : Int) == (n : Int)) = false := by simp; omega
        go_wp2_with (go_at_call 59; (with_reducible refine HC.out.mono ?_); rintro e w3 ⟨a, c, rfl, hx3⟩)
        go_ret
        exact ⟨by rw [HF.out]; first | (simp [e3']; done) | (simp [e3']; intros; omega), Below.trans HX.out (hx3.mono HSZ.out)⟩
    · have e2' : ¬ (n : Int) ≤ 40 := by omega
      go_wp2_with (fail)
      go_ret
      exact ⟨by rw [HF.out]; first | (simp [e2]; done) | (simp [e2]; intros; omega), HX.out⟩
  · obtain rfl : n = 0 := by omega
    go_wp2_with (fail)
    go_ret
    exact ⟨by rw [HF.out]; first | (simp [e1]; done) | (simp [e1]; intros; omega), HX.out⟩
end Go.Proofs.Ytlekdhhgjhakgaa

namespace Go.Proofs.Ytlekdhhgjhakgaa
set_option linter.unusedVariables false
set_option linter.unusedSimpArgs false
open Go.RowKit
set_option maxRecDepth 100000 in
set_option maxHeartbeats 8000000 in
theorem open_any (c0 c1 c2 c3 c4 c5 bv : Value) (s : Su) (bs : List Int) (each : Int) (w : World) (h : SuV w c0 c1 c2 c3 c4 c5 s) (hbs : IRd w bv bs) (hn : bs.length ≤ 1000000) :
    Calls Try.prog 32 #[.agg #[c0, c1, c2, c3, c4, c5], bv, .int .i64 each] w fun e w' => ∃ pv, e = .returned (.tuple #[pv, .int .i64 (openE s bs each)]) ∧ Ext w w' ∧
      (openE s bs each = 0 → ∃ p iv mv us, pv = .pointer (some ⟨p, 0, none⟩) ∧ w.heap.size ≤ p ∧ Dk w.heap.size w' p (asrF s.ps) (mayL s bs) each iv mv us) ∧ (openE s bs each ≠ 0 → pv = .pointer none) := by
  have hS := h
  obtain ⟨hps, hhs, hrs, ⟨q1, rfl⟩, ⟨q4, rfl⟩, ⟨q5, rfl⟩, hok⟩ := h
  obtain ⟨b0, n0, rfl⟩ := hps.form
  obtain ⟨b2, n2, rfl⟩ := hhs.form
  obtain ⟨b3, n3, rfl⟩ := hrs.form
  obtain ⟨A, cap, rfl⟩ : ∃ A cap, bv = .slice A bs.length cap := by obtain ⟨A, cap, h1, -⟩ := hbs; exact ⟨A, cap, h1⟩
  have hal : (asrF s.ps).length ≤ 1000 := by
    have h1 := asrR_len s.ps []
    have h2 : (asrF s.ps).length = (asrR s.ps []).length := (srtZ_perm _).length_eq
    have h3 := hok.np
    omega
  clear hps hhs hrs hok
  go_enter Try.func32, Try.ntmps32
  go_upto_region 1 with (fail)
  obtain ⟨v0, hv0⟩ : ∃ v0, v0 = Value.slice b0 s.ps.length n0 := ⟨_, rfl⟩
  obtain ⟨v2, hv2⟩ : ∃ v2, v2 = Value.slice b2 s.hs.length n2 := ⟨_, rfl⟩
  obtain ⟨v3, hv3⟩ : ∃ v3, v3 = Value.slice b3 s.rs.length n3 := ⟨_, rfl⟩
  rw [← hv0, ← hv2, ← hv3] at hS ⊢
  have hx1 : Ext w (w.alloc (.cells #[v0, .int .i64 q1, v2, v3, .int .i64 q4, .int .i64 q5] 28)) := Ext.alloc (Ext.refl _) _
  have hb1 := alloc_at w (.cells #[v0, .int .i64 q1, v2, v3, .int .i64 q4, .int .i64 q5] 28)
  obtain ⟨D, hD⟩ : ∃ D, D = w.heap.size := ⟨_, rfl⟩
  rw [← hD] at hb1 ⊢
  generalize w.alloc (.cells #[v0, .int .i64 q1, v2, v3, .int .i64 q4, .int .i64 q5] 28) = W1 at *
  have HS := Lib.hid (hS.ext hx1)
  have HB := Lib.hid hb1; have HX1 := Lib.hid hx1; have HBS := Lib.hid (hbs.ext hx1); have HDD := Lib.hid hD
  have HC : Hid (∀ wz, Ext W1 wz → wz.cell? ⟨D, 0, none⟩ = some v0 ∧ wz.cell? ⟨D, 1, none⟩ = some (.int .i64 q1) ∧ wz.cell? ⟨D, 2, none⟩ = some v2 ∧ wz.cell? ⟨D, 3, none⟩ = some v3 ∧ wz.cell? ⟨D, 4, none⟩ = some (.int .i64 q4) ∧ wz.cell? ⟨D, 5, none⟩ = some (.int .i64 q5)) := Lib.hid fun wz hz => by
    have h1 := (hz.block _ (Rg.lt_of_heap HB.out)).trans HB.out
    exact ⟨cell_of_row wz D 0 _ _ _ h1, cell_of_row wz D 1 _ _ _ h1, cell_of_row wz D 2 _ _ _ h1, cell_of_row wz D 3 _ _ _ h1, cell_of_row wz D 4 _ _ _ h1, cell_of_row wz D 5 _ _ _ h1⟩
  have HO : Hid (openE s bs each = if rightF bs each = false then 1 else if ((asrF s.ps).length : Int) < each then 24 else if (mayL s bs).any (fun l => decide ((l.length : Int) < each)) then 36 else 0) := Lib.hid rfl
  clear hb1 hx1 hS hv0 hv2 hv3 hbs hD
  have HRI := Lib.hid (right_any _ bs each W1 HBS.out hn)
  cases hrt : rightF bs each with
  | false =>
    rw [hrt] at HRI
    have HO2 : Hid (openE s bs each = 1) := Lib.hid (by rw [HO.out, if_pos hrt])
    clear HO hrt
    go_wp2_with (go_at_call 49; (with_reducible refine HRI.out.mono ?_); rintro e wa ⟨rfl, hxa⟩)
    go_ret2
    exact ⟨_, by rw [HO2.out]; rfl, HX1.out.trans hxa, fun h => absurd (HO2.out.symm.trans h) (by decide), fun _ => rfl⟩
  | true =>
    rw [hrt] at HRI
    replace HO : Hid (openE s bs each = if ((asrF s.ps).length : Int) < each then 24 else if (mayL s bs).any (fun l => decide ((l.length : Int) < each)) then 36 else 0) := Lib.hid (by rw [HO.out, if_neg (by rw [hrt]; decide)])
    have hem : 0 < each ∧ each ≤ 13 := by
      have := hrt
      simp only [rightF, Bool.and_eq_true, decide_eq_true_iff] at this
      omega
    clear hrt
    go_upto_region 3 with (go_at_call 49; (with_reducible refine HRI.out.mono ?_); rintro e wa ⟨rfl, hxa⟩)
    obtain ⟨e0, e1, e2, e3, e4, e5⟩ := HC.out wa hxa
    have HAS := Lib.hid (assessors_any _ _ _ _ _ _ s wa (HS.out.ext hxa))
    have HXA := Lib.hid hxa
    clear HRI hxa
    go_upto_region 4 with (go_at_call 50; (with_reducible refine HAS.out.mono ?_); rintro e wb ⟨iv, rfl, hiv, hxb⟩; obtain ⟨A5, cap5, rfl⟩ : ∃ A5 cap5, iv = .slice A5 (asrF s.ps).length cap5 := (by obtain ⟨A5, cap5, h1, -⟩ := hiv; exact ⟨A5, cap5, h1⟩))
    have hxd : Ext wb (wb.alloc (.cells #[.slice A5 (asrF s.ps).length cap5, .slice none 0 0, .int .i64 each] 77)) := Ext.alloc (Ext.refl _) _
    have hbd := alloc_at wb (.cells #[.slice A5 (asrF s.ps).length cap5, .slice none 0 0, .int .i64 each] 77)
    have HXB := Lib.hid (HXA.out.trans hxb)
    have HIV := Lib.hid hiv; have HX2 := Lib.hid hxd
    clear hxb hxd hiv HAS e0 e1 e2 e3 e4 e5
    obtain ⟨p, hp⟩ : ∃ p, p = wb.heap.size := ⟨_, rfl⟩
    have HP := Lib.hid hp
    rw [← hp] at hbd ⊢
    clear hp
    generalize wb.alloc (.cells #[.slice A5 (asrF s.ps).length cap5, .slice none 0 0, .int .i64 each] 77) = W2 at *
    have d0 := cell_of_row W2 p 0 _ _ _ hbd
    have HBD := Lib.hid hbd
    clear hbd
    change W2.cell? _ = some (.slice A5 (asrF s.ps).length cap5) at d0
    by_cases hfew : ((asrF s.ps).length : Int) < each
    · have HO2 : Hid (openE s bs each = 24) := Lib.hid (by rw [HO.out, if_pos hfew])
      clear HO
      go_wp2_with (fail)
      go_ret2
      exact ⟨_, by rw [HO2.out]; rfl, HX1.out.trans (HXB.out.trans HX2.out), fun h => absurd (HO2.out.symm.trans h) (by decide), fun _ => rfl⟩
    · replace HO : Hid (openE s bs each = if (mayL s bs).any (fun l => decide ((l.length : Int) < each)) then 36 else 0) := Lib.hid (by rw [HO.out, if_neg hfew])
      have HD2 : Hid (Dk p W2 p (asrF s.ps) (mayL s (bs.take 0)) each (.slice A5 (asrF s.ps).length cap5) (.slice none 0 0) []) := Lib.hid ⟨HBD.out, HIV.out.ext HX2.out, ⟨⟨rfl, .inl ⟨rfl, rfl⟩⟩, rfl, fun i h1 h2 => absurd h2 (by simp)⟩⟩
      go_wp2_with (fail)
      clear HBD d0 hfew
      go_loopw [32] (fun k wr => ∃ (i : Nat) (mv : Value) (us : List Value), k = .int .i64 i ∧ i ≤ bs.length ∧ Hid (Dk p wr p (asrF s.ps) (mayL s (bs.take i)) each (.slice A5 (asrF s.ps).length cap5) mv us) ∧ Hid (∀ l ∈ mayL s (bs.take i), ¬ (l.length : Int) < each) ∧ Hid (Ext wb wr)) (fun k _ => bs.length - (iof k).toNat)
      case atStart => exact ⟨0, _, _, rfl, by omega, HD2, Lib.hid (by simp [mayL]), HX2⟩
      case round =>
        rename World => wo
        obtain ⟨i, mv, us, rfl, hi, HDK, HAL, HX⟩ := hrel
        clear HD2 HX2
        by_cases hil : i < bs.length
        · obtain ⟨g, off, rfl, hgl, hcc⟩ := (HBS.out.rowI).resolve_left (fun h0 => by rw [h0] at hil; simp at hil)
          have c0 := ((HXB.out.trans HX.out).cells.1 g (off + i) hgl).trans (hcc i hil)
          have OB := Lib.hid (ird_ok HBS.out _ (List.getElem_mem hil))
          have HT : Hid (mayL s (bs.take (i + 1)) = mayL s (bs.take i) ++ [mayK s (asrF s.ps) bs[i] (asrF s.ps).length]) := Lib.hid (by rw [List.take_succ_eq_append_getElem hil]; unfold mayL; rw [List.map_append]; rfl)
          have HM : Hid (mayK s (asrF s.ps) bs[i] (asrF s.ps).length ∈ mayL s bs) := Lib.hid (List.mem_map.2 ⟨bs[i], List.getElem_mem hil, rfl⟩)
          generalize bs[i] = b at *
          have d0 := cell_of_row wo p 0 _ _ _ HDK.out.at_
          change wo.cell? _ = some (.slice A5 (asrF s.ps).length cap5) at d0
          clear hcc hgl
          go_wp2_with (fail)
          clear c0 d0
          go_loopw [11, 41] (fun lv kv wq => ∃ j : Nat, kv = .int .i64 j ∧ j ≤ (asrF s.ps).length ∧ Hid (wq.ownsRow wo.heap.size 3 1 lv (natI (mayK s (asrF s.ps) b j)).length ((natI (mayK s (asrF s.ps) b j)).flatMap celI)) ∧ Hid (Ext wo wq)) (fun _ kv _ => (asrF s.ps).length - (iof kv).toNat)
          case atStart => exact ⟨0, rfl, by omega, Lib.hid ⟨rfl, .inl ⟨rfl, rfl⟩⟩, Lib.hid (Ext.refl _)⟩
          case round =>
            obtain ⟨j, rfl, hj, HR, HXQ⟩ := hrel
            obtain ⟨A3, cap3, rfl, -, -, -⟩ := row_formI HR.out
            by_cases hjl : j < (asrF s.ps).length
            · obtain ⟨gi, oi, rfl, hgi, hci⟩ := (HIV.out.rowI).resolve_left (fun h0 => by rw [h0] at hjl; simp at hjl)
              have ci := ((HX.out.trans HXQ.out).cells.1 gi (oi + j) hgi).trans (hci j hjl)
              have OI := Lib.hid (ird_ok HIV.out _ (List.getElem_mem hjl))
              have HJ : Hid (natI (mayK s (asrF s.ps) b (j + 1)) = natI (mayK s (asrF s.ps) b j) ++ (if (!confF s (asrF s.ps)[j] b) = true then [(j : Int)] else [])) := Lib.hid (by rw [mayK_succ s (asrF s.ps) b j hjl]; unfold natI; rw [List.map_append]; split <;> rfl)
              generalize (asrF s.ps)[j] = id at *
              have HXW := Lib.hid (HXB.out.trans (HX.out.trans HXQ.out))
              obtain ⟨e0, e1, e2, e3, e4, e5⟩ := HC.out wr HXW.out
              have HCF := Lib.hid (Conflict_any _ _ _ _ _ _ s id b wr (HS.out.ext HXW.out) OI.out OB.out)
              have hkl : (natI (mayK s (asrF s.ps) b j)).length ≤ j := by rw [natI_len]; exact mayK_len _ _ _ _
              generalize natI (mayK s (asrF s.ps) b j) = kl at *
              clear hci hgi
              cases hcf : confF s id b with
              | true =>
                rw [hcf] at HCF HJ
                go_wp2_with (go_at_call 15; (with_reducible refine HCF.out.mono ?_); rintro e wc ⟨rfl, hxc⟩)
                exact ⟨⟨j + 1, by simp, by omega, Lib.hid (by rw [HJ.out]; simpa using row_ext HR.out hxc), Lib.hid (HXQ.out.trans hxc)⟩, by simp [iof]; omega⟩
              | false =>
                rw [hcf] at HCF HJ
                go_upto_region 14 with (go_at_call 15; (with_reducible refine HCF.out.mono ?_); rintro e wc ⟨rfl, hxc⟩)
                have HRC := Lib.hid (row_ext HR.out hxc)
                have HXC := Lib.hid (HXQ.out.trans hxc)
                clear hxc HR HXQ e0 e1 e2 e3 e4 e5 ci HCF
                go_upto_region 15 with (at_builtin; (refine append_g (cs := celI) (z := .int .i64 0) 22 3 8 Try.underlying22 (by kernel_rfl) (by rfl) (by decide) (by decide) rfl (.tmp 51) (.tmp 53) rfl wo.heap.size (.slice A3 kl.length cap3) kl (by rfl) (row_ext HRC.out (Ext.alloc (Ext.refl _) _)) wc.heap.size j (celI_len _) (by rfl) (alloc_at wc _) (by omega) (by have := HXC.out.size; simp; omega) ?_; intro g7 cap7 w7 hr7 hg7 hat7))
                have hxa : Ext wc (wc.alloc (.cells #[.int .i64 j] 3)) := Ext.alloc (Ext.refl _) _
                have HX7 : Hid (Ext wo w7) := Lib.hid (row_grown (HXC.out.trans hxa) (row_ext HRC.out hxa) (Nat.le_refl _) hg7)
                have HR7 := Lib.hid hr7
                clear hxa hr7 hg7 hat7 HRC HXC
                go_wp2_with (fail)
                exact ⟨⟨j + 1, by simp, by omega, Lib.hid (by rw [HJ.out]; exact HR7.out), HX7⟩, by simp [iof]; omega⟩
            · obtain rfl : j = (asrF s.ps).length := by omega
              generalize mayK s (asrF s.ps) b (asrF s.ps).length = lk at *
              by_cases hsm : (lk.length : Int) < each
              · have HO2 : Hid (openE s bs each = 36) := Lib.hid (by rw [HO.out, if_pos (List.any_eq_true.2 ⟨lk, HM.out, decide_eq_true hsm⟩)])
                clear HO
                have hsm' : ((natI lk).length : Int) < each := by rw [natI_len]; exact hsm
                have HXF := Lib.hid (HX1.out.trans (HXB.out.trans (HX.out.trans HXQ.out)))
                go_wp2_with (fail)
                go_ret2
                exact ⟨_, by rw [HO2.out]; rfl, HXF.out, fun h => absurd (HO2.out.symm.trans h) (by decide), fun _ => rfl⟩
              · have hsm' : ¬ ((natI lk).length : Int) < each := by rw [natI_len]; exact hsm
                have HSM := Lib.hid hsm
                have HD3 := Lib.hid (HDK.out.ext HXQ.out)
                have HXR := Lib.hid (HX.out.trans HXQ.out)
                have hul : us.length < 1000000 := by rw [HD3.out.may.len]; unfold mayL; rw [List.length_map, List.length_take]; omega
                have HU := Lib.hid (row_mono HR.out (B' := p) (by have := HX.out.size; have := HP.out; omega))
                clear HDK HX HXQ HR
                obtain ⟨A4, cap4, rfl⟩ : ∃ A4 cap4, mv = .slice A4 us.length cap4 := row_formG HD3.out.may.row
                have c1 := cell_of_row wr p 1 _ _ _ HD3.out.at_
                change wr.cell? _ = some (.slice A4 us.length cap4) at c1
                have hxa : Ext wr (wr.alloc (.cells #[.slice A3 (natI lk).length cap3] 22)) := Ext.alloc (Ext.refl _) _
                have HD4 := Lib.hid (HD3.out.ext hxa)
                have HU4 := Lib.hid (row_ext HU.out hxa)
                have HX4 := Lib.hid (HXR.out.trans hxa)
                have HP4 : Hid (p ≤ (wr.alloc (.cells #[.slice A3 (natI lk).length cap3] 22)).heap.size) := Lib.hid (by have := HX4.out.size; have := HP.out; omega)
                clear hxa HD3 HU HXR
                go_upto_region 19 with (at_builtin; (refine append_g (cs := cel1) (z := .slice none 0 0) 74 22 24 Try.underlying74 (by kernel_rfl) (by rfl) (by decide) (by decide) rfl (.tmp 64) (.tmp 66) rfl p (.slice A4 us.length cap4) us (by rfl) HD4.out.may.row wr.heap.size (.slice A3 (natI lk).length cap3) ⟨rfl, by simp [cel1, Value.oneCell']⟩ (by rfl) (alloc_at wr _) (by omega) HP4.out ?_; intro g7 cap7 w7 hr7 hg7 hat7; have hp7 := row_other HD4.out.may.row (by decide) hg7 HD4.out.at_; have f7 : w7.frozen? ⟨p, 1, none⟩ = false := (by simp [World.frozen?, hp7]); have c7 := cell_of_row w7 p 1 _ _ _ hp7; change w7.cell? _ = some (.slice A4 us.length cap4) at c7))
                have HX7 : Hid (Ext wb w7) := Lib.hid (row_grown HX4.out HD4.out.may.row (Nat.le_of_eq HP.out.symm) hg7)
                have HM7 := Lib.hid ((HD4.out.may.push HU4.out hg7 hr7).cell (o := 1) hp7 (.slice (some ⟨g7, 0, none⟩) (us.length + 1) cap7))
                have HA7 := Lib.hid (heap_setCell_row (o := 1) (.slice (some ⟨g7, 0, none⟩) (us.length + 1) cap7) hp7)
                have HX8 : Hid (Ext wb (w7.setCell ⟨p, 1, none⟩ (.slice (some ⟨g7, 0, none⟩) (us.length + 1) cap7))) := Lib.hid (Ext.setCell HX7.out (by have := HP.out; simp; omega) _)
                clear hr7 hg7 hat7 hp7 f7 c7 c1
                go_wp2_with (fail)
                have HDN : Dk p (w7.setCell ⟨p, 1, none⟩ (.slice (some ⟨g7, 0, none⟩) (us.length + 1) cap7)) p (asrF s.ps) (mayL s (bs.take (i + 1))) each (.slice A5 (asrF s.ps).length cap5) (.slice (some ⟨g7, 0, none⟩) (us.length + 1) cap7) (us ++ [.slice A3 (natI lk).length cap3]) :=
                  ⟨HA7.out.trans rfl, HIV.out.ext HX8.out, by rw [HT.out]; exact HM7.out⟩
                exact ⟨⟨i + 1, _, _, by simp, by omega, Lib.hid HDN, Lib.hid (by
                  rw [HT.out]
                  intro l hl
                  rcases List.mem_append.1 hl with hl | hl
                  · exact Int.not_lt.2 (HAL.out l hl)
                  · rw [List.mem_singleton.1 hl]; exact HSM.out), HX8⟩, by simp [iof]; omega⟩
        · obtain rfl : i = bs.length := by omega
          have HO2 : Hid (openE s bs each = 0) := Lib.hid (by
            have h2 := HAL.out
            rw [List.take_length] at h2
            rw [HO.out, if_neg]
            intro h3
            obtain ⟨l, hl, h4⟩ := List.any_eq_true.1 h3
            exact h2 l hl (of_decide_eq_true h4))
          clear HO
          go_wp2_with (fail)
          go_ret2
          have hpw : w.heap.size ≤ p := by have := HX1.out.size; have := HXB.out.size; have := HP.out; omega
          have HD5 := HDK.out
          rw [List.take_length] at HD5
          refine ⟨_, by rw [HO2.out]; rfl, HX1.out.trans (HXB.out.trans HX.out), fun _ => ?_, fun h => absurd HO2.out h⟩
          exact ⟨p, rfl, hpw, _, _, _, ⟨HD5.at_, HD5.ids, HD5.may.mono hpw⟩⟩
end Go.Proofs.Ytlekdhhgjhakgaa

namespace Go.Proofs.Ytlekdhhgjhakgaa
set_option linter.unusedVariables false
set_option linter.unusedSimpArgs false
open Go.RowKit Go.MapKept Go.ChangeMaps
open Go.Maps (Keyed)
theorem map_erase {α β : Type} (f : α → β) : ∀ (l : List α) (j : Nat), (l.eraseIdx j).map f = (l.map f).eraseIdx j
  | [], _ => rfl
  | _ :: _, 0 => rfl
  | a :: l, j + 1 => by simp [map_erase f l j]
theorem erase_filter {κ β : Type} [DecidableEq κ] : ∀ (l : List (κ × β)) (j : Nat) (x : κ) (v : β), (l.map (·.1)).Nodup → l[j]? = some (x, v) → l.eraseIdx j = l.filter (fun p => decide (p.1 ≠ x))
  | [], j, x, v, _, h => by simp at h
  | p :: l, 0, x, v, hn, h => by
    simp only [List.getElem?_cons_zero, Option.some.injEq] at h
    subst h
    simp only [List.map_cons, List.nodup_cons] at hn
    simp only [List.eraseIdx_cons_zero, List.filter_cons, ne_eq, not_true_eq_false, decide_false, Bool.false_eq_true, if_false]
    refine (List.filter_eq_self.2 fun q hq => ?_).symm
    rw [decide_eq_true_eq]
    rintro rfl
    exact hn.1 (List.mem_map.2 ⟨q, hq, rfl⟩)
  | p :: l, j + 1, x, v, hn, h => by
    simp only [List.map_cons, List.nodup_cons] at hn
    have h2 : l[j]? = some (x, v) := by simpa using h
    have hne : p.1 ≠ x := by
      rintro rfl
      exact hn.1 (List.mem_map.2 ⟨_, List.mem_of_getElem? h2, rfl⟩)
    rw [List.eraseIdx_cons_succ, erase_filter l j x v hn.2 h2, List.filter_cons, if_pos (by simpa using hne)]
section
variable {κ : Type} [DecidableEq κ] {enc : κ → Value} {good : κ → Prop} {P : Program} {k e t : TypeId} {w w' : World} {b : Nat} {l : List (κ × Value)}
theorem MP.delete (K : KE P k enc good) (ht : P.underlying t = some (.map k e)) (h : MP enc good w b l) {x : κ} (hx : good x) (k2 ty : TypeId) :
    ∃ w', (Builtin.delete_ #[t, k2] ty #[.map (some b), enc x]).run P w = .ok (.tuple #[]) w' ∧ MP enc good w' b (l.filter fun p => decide (p.1 ≠ x)) ∧ w.grownBy w' (some b) := by
  have h0 := h
  obtain ⟨h1, h2, es, clock, hb, hes, hst⟩ := h
  obtain ⟨li, hli⟩ := K.lit x hx
  have hsub : ∀ p ∈ l.filter (fun p => decide (p.1 ≠ x)), good p.1 := fun p hp => h1 p (List.mem_filter.1 hp).1
  have hnd : ((l.filter (fun p => decide (p.1 ≠ x))).map (·.1)).Nodup := h2.sublist (List.filter_sublist.map _)
  rcases MP.find K h0 hx hes with ⟨hf, hl⟩ | ⟨j, v0, hf, hl, e0, hj, hek, hev, hlj⟩
  · have hm := lookup_none.1 hl
    have hfl : l.filter (fun p => decide (p.1 ≠ x)) = l := List.filter_eq_self.2 fun q hq => by
      rw [decide_eq_true_eq]
      rintro rfl
      exact hm (List.mem_map.2 ⟨q, hq, rfl⟩)
    rw [hfl]
    refine ⟨setBlock w b (.map es clock), ?_, ⟨h1, h2, _, _, heap_setBlock_same hb _, hes, hst⟩, ⟨rfl, rfl, rfl, by simp [setBlock], fun i _ hi => heap_setBlock_other hb _ (fun e => hi (by rw [e]))⟩⟩
    simp [Builtin.delete_, run_underlying ht, MapKept.run_getObj_map hb, K.keyed.check w _ hli, hf, Result.andThen, MapKept.run_setObj_map _ hb]
    rfl
  · have hel := erase_filter l j x v0 h2 hlj
    refine ⟨setBlock w b (.map (es.eraseIdxIfInBounds j) clock), ?_, ⟨hsub, hnd, _, _, heap_setBlock_same hb _, ?_, MapKept.stamped_erase hst j⟩, ⟨rfl, rfl, rfl, by simp [setBlock], fun i _ hi => heap_setBlock_other hb _ (fun e => hi (by rw [e]))⟩⟩
    · simp [Builtin.delete_, run_underlying ht, MapKept.run_getObj_map hb, K.keyed.check w _ hli, hf, Result.andThen, MapKept.run_setObj_map _ hb]
      rfl
    · rw [← hel]
      have e1 : (es.eraseIdxIfInBounds j).toList = es.toList.eraseIdx j := by
        rw [Array.eraseIdxIfInBounds_eq]
        split
        · simp
        · rename_i hlt
          rw [List.eraseIdx_of_length_le (by simpa using hlt)]
      rw [e1, map_erase, map_erase, hes]
theorem wpList_delete (ops : Array Oper) {rest : List Oper} {o : Oper} {a : Act} {Q : Exit → Act → World → Prop} (hg : o.guard = none) (m x : Operand) (t k2 : TypeId) (hop : o.op = Op.call { callee := Callee.builtin Builtin.delete, args := #[m, x], argTypes := #[t, k2] })
    (k e : TypeId) (K : KE P k enc good) (ht : P.underlying t = some (.map k e)) (b : Nat) (l : List (κ × Value)) (hm : a.eval m = .map (some b)) (h : MP enc good w b l) (key : κ) (hx : a.eval x = enc key) (hgd : good key)
    (hK : ∀ w', MP enc good w' b (l.filter fun p => decide (p.1 ≠ key)) → w.grownBy w' (some b) → wpList P ops Q rest (a.put o.dst (.tuple #[])) w') : wpList P ops Q (o :: rest) a w := by
  refine wpList_plain hg fun K' hK' => ?_
  obtain ⟨w', hrun, r1, r2⟩ := h.delete K ht hgd k2 o.type
  unfold Oper.wp
  simp [execOp, hop, resolve, invoke, builtin, hm, hx, hrun, Result.andThen]
  exact hK' _ _ (hK w' r1 r2)
end
theorem lookup_filter {l : List (Int × Value)} (x y : Int) : (l.filter fun p => decide (p.1 ≠ x)).lookup y = if y = x then none else l.lookup y := by
  induction l with
  | nil => simp
  | cons p l ih =>
    rw [List.filter_cons]
    by_cases e : p.1 = x
    · rw [if_neg (by simpa using e), ih, List.lookup_cons]
      by_cases e2 : y = x
      · rw [if_pos e2, if_pos e2]
      · rw [if_neg e2, if_neg e2, show (y == p.1) = false by rw [beq_eq_false_iff_ne]; omega]
    · rw [if_pos (by simpa using e), List.lookup_cons, ih, List.lookup_cons]
      by_cases e2 : y = x
      · rw [if_pos e2, if_pos e2, show (y == p.1) = false by rw [beq_eq_false_iff_ne]; omega]
      · rw [if_neg e2, if_neg e2]
theorem wpList_delB (ops : Array Oper) {rest : List Oper} {o : Oper} {a : Act} {Q : Exit → Act → World → Prop} {w : World} (hg : o.guard = none) (m x : Operand) (k2 : TypeId) (hop : o.op = Op.call { callee := Callee.builtin Builtin.delete, args := #[m, x], argTypes := #[66, k2] })
    (b : Nat) (f : Int → Bool) (hm : a.eval m = .map (some b)) (h : BM w b f) (k : Int) (hx : a.eval x = .int .i64 k) (hk : OkI k)
    (hK : ∀ w', BM w' b (setF f k false) → w.grownBy w' (some b) → wpList Try.prog ops Q rest (a.put o.dst (.tuple #[])) w') : wpList Try.prog ops Q (o :: rest) a w := by
  obtain ⟨l, h1, h2, h3⟩ := h
  refine wpList_delete ops hg m x 66 k2 hop 3 4 keI Try.underlying66 b l hm h1 k hx hk fun w' hw hg' => hK w' ⟨_, hw, fun p hp => h2 p (List.mem_filter.1 hp).1, fun y => ?_⟩ hg'
  rw [lookup_filter]
  unfold setF
  split
  · rfl
  · exact h3 y
end Go.Proofs.Ytlekdhhgjhakgaa

namespace Go.Proofs.Ytlekdhhgjhakgaa
set_option linter.unusedVariables false
set_option linter.unusedSimpArgs false
open Go.RowKit
/-- A row of cells that a function says. -/
def tabV (g : Nat → Value) (m : Nat) : Array Value := ((List.range m).map g).toArray
theorem tabV_size (g : Nat → Value) (m : Nat) : (tabV g m).size = m := by simp [tabV]
theorem tabV_get (g : Nat → Value) {m k : Nat} (h : k < m) : (tabV g m)[k]? = some (g k) := by
  simp [tabV, h]
theorem tabV_congr {g h : Nat → Value} {m : Nat} (e : ∀ k, k < m → g k = h k) : tabV g m = tabV h m := by
  unfold tabV
  congr 1
  exact List.map_congr_left fun k hk => e k (List.mem_range.1 hk)
theorem tabV_set (g : Nat → Value) {m k : Nat} (v : Value) : (tabV g m).setIfInBounds k v = tabV (fun j => if j = k then v else g j) m := by
  refine Array.ext (by simp [tabV]) fun i h1 h2 => ?_
  simp only [tabV_size] at h2
  rw [Array.getElem_setIfInBounds (by rw [tabV_size]; exact h2)]
  by_cases e : k = i
  · subst e; simp [tabV]
  · have e2 : ¬ i = k := fun h => e h.symm
    simp [tabV, e, e2]
theorem tab_cell {W : World} {b m T : Nat} {g : Nat → Value} (h : W.heap[b]? = some (.cells (tabV g m) T)) {k : Nat} (hk : k < m) : W.cell? ⟨b, k, none⟩ = some (g k) := by
  rw [cell_of_row W b k _ _ _ h, tabV_get g hk]
theorem tab_frozen {W : World} {b o T : Nat} {cs : Array Value} (h : W.heap[b]? = some (.cells cs T)) : W.frozen? ⟨b, o, none⟩ = false := by simp [World.frozen?, h]
theorem tab_put {W : World} {b m T : Nat} {g : Nat → Value} (h : W.heap[b]? = some (.cells (tabV g m) T)) (k : Nat) (v : Value) : (W.setCell ⟨b, k, none⟩ v).heap[b]? = some (.cells (tabV (fun j => if j = k then v else g j) m) T) := by
  rw [heap_setCell_row v h, tabV_set]
theorem cells_ne {W : World} {x y S T : Nat} {cs ds : Array Value} (h1 : W.heap[x]? = some (.cells cs S)) (h2 : W.heap[y]? = some (.cells ds T)) (h : S ≠ T) : x ≠ y := by
  rintro rfl
  rw [h1] at h2
  injection h2 with h2
  injection h2 with _ h2
  exact h h2
theorem map_ne {W : World} {x y S : Nat} {cs : Array Value} {f : Int → Bool} (h1 : W.heap[x]? = some (.cells cs S)) (h2 : BM W y f) : x ≠ y := by
  rintro rfl
  obtain ⟨l, h3, -⟩ := h2
  obtain ⟨es, ck, hb, -⟩ := h3.2.2
  rw [h1] at hb
  cases hb
/-- Where all lies. -/
structure FC where
  w0 : World
  p : Nat
  ids : List Int
  ms : List (List Nat)
  each : Int
  iv : Value
  mv : Value
  us : List Value
  fA : Option Addr
  fc : Nat
  f : Nat
  bd : Nat
  bs : Nat
  bh : Nat
  br : Nat
  bf : Nat
  bz : Nat
  rb : Nat
  hb : Nat
  hm : Nat → Nat
/-- The numbers of assessors and of bidders. -/
def FC.m (C : FC) : Nat := C.ids.length
def FC.n (C : FC) : Nat := C.ms.length
structure FC.ok (C : FC) : Prop where
  dk : Dk 0 C.w0 C.p C.ids C.ms C.each C.iv C.mv C.us
  may : May C.ms C.ids.length
  rb : C.w0.heap.size ≤ C.rb
  hm : ∀ o, o < C.ms.length → C.w0.heap.size ≤ C.hm o
  inj : ∀ o q, o < C.ms.length → q < C.ms.length → C.hm o = C.hm q → o = q
  m : C.ids.length ≤ 1000
  n : C.ms.length ≤ 1000
def pt (b : Nat) : Value := .pointer (some ⟨b, 0, none⟩)
/-- What the captured variables hold. -/
structure FS (C : FC) (W : World) (sb : Nat) (R : Nat → Int) (D : Nat → Nat → Bool) (T : Nat → Bool) : Prop where
  low : Ext C.w0 W
  bd : W.heap[C.bd]? = some (.cells #[.pointer (some ⟨C.p, 0, none⟩)] 70)
  bs : W.heap[C.bs]? = some (.cells #[.slice (some ⟨sb, 0, none⟩) C.ids.length C.ids.length] 87)
  bh : W.heap[C.bh]? = some (.cells #[.slice (some ⟨C.hb, 0, none⟩) C.ms.length C.ms.length] 97)
  br : W.heap[C.br]? = some (.cells #[.slice (some ⟨C.rb, 0, none⟩) C.ids.length C.ids.length] 22)
  bf : W.heap[C.bf]? = some (.cells #[.slice C.fA C.f C.fc] 74)
  bz : W.heap[C.bz]? = some (.cells #[.func (.func 54) #[] #[.pointer (some ⟨C.bd, 0, none⟩), .pointer (some ⟨C.bs, 0, none⟩), .pointer (some ⟨C.bh, 0, none⟩), .pointer (some ⟨C.br, 0, none⟩), .pointer (some ⟨C.bf, 0, none⟩), .pointer (some ⟨C.bz, 0, none⟩)]] 98)
  room : W.heap[C.rb]? = some (.cells (tabV (fun k => .int .i64 (R k)) C.ids.length) 3)
  has : W.heap[C.hb]? = some (.cells (tabV (fun o => .map (some (C.hm o))) C.ms.length) 66)
  maps : ∀ o, C.f ≤ o → o < C.ms.length → ∃ fn, BM W (C.hm o) fn ∧ ∀ k, k < C.ids.length → fn (k : Int) = D o k
  seen : W.heap[sb]? = some (.cells (tabV (fun k => .bool (T k)) C.ids.length) 4)
  sb : C.w0.heap.size ≤ sb
theorem FS.ext {C : FC} {W W' : World} {sb : Nat} {R : Nat → Int} {D : Nat → Nat → Bool} {T : Nat → Bool} (h : FS C W sb R D T) (x : Ext W W') : FS C W' sb R D T := by
  have k : ∀ b c t, W.heap[b]? = some (Obj.cells c t) → W'.heap[b]? = some (Obj.cells c t) := fun b c t hk => (x.block _ (Rg.lt_of_heap hk)).trans hk
  exact ⟨h.low.trans x, k _ _ _ h.bd, k _ _ _ h.bs, k _ _ _ h.bh, k _ _ _ h.br, k _ _ _ h.bf, k _ _ _ h.bz, k _ _ _ h.room, k _ _ _ h.has, fun o a b => by
    obtain ⟨fn, h1, h2⟩ := h.maps o a b
    exact ⟨fn, h1.ext x, h2⟩, k _ _ _ h.seen, h.sb⟩
/-- One is seen. -/
theorem FS.look {C : FC} {W : World} {sb : Nat} {R : Nat → Int} {D : Nat → Nat → Bool} {T : Nat → Bool} (h : FS C W sb R D T) (k : Nat) : FS C (W.setCell ⟨sb, k, none⟩ (.bool true)) sb R D (Proofs.Ytlekdhhgjhakgaa.seen T k) := by
  have kp : ∀ b c t, t ≠ 4 → W.heap[b]? = some (Obj.cells c t) → (W.setCell ⟨sb, k, none⟩ (.bool true)).heap[b]? = some (Obj.cells c t) := fun b c t ht hk => (heap_setCell_other _ (cells_ne hk h.seen ht)).trans hk
  refine ⟨Ext.setCell h.low h.sb _, kp _ _ _ (by decide) h.bd, kp _ _ _ (by decide) h.bs, kp _ _ _ (by decide) h.bh, kp _ _ _ (by decide) h.br, kp _ _ _ (by decide) h.bf, kp _ _ _ (by decide) h.bz, kp _ _ _ (by decide) h.room, kp _ _ _ (by decide) h.has, fun o a b => ?_, ?_, h.sb⟩
  · obtain ⟨fn, h1, h2⟩ := h.maps o a b
    exact ⟨fn, h1.of_block (heap_setCell_other _ (fun e => map_ne h.seen h1 e.symm)), h2⟩
  · rw [tab_put h.seen]
    congr 2
    refine tabV_congr fun j _ => ?_
    unfold Proofs.Ytlekdhhgjhakgaa.seen
    split <;> rfl
/-- The room of one is turned. -/
theorem FS.turn {C : FC} {W : World} {sb : Nat} {R : Nat → Int} {D : Nat → Nat → Bool} {T : Nat → Bool} (h : FS C W sb R D T) (hr : C.w0.heap.size ≤ C.rb) (k : Nat) (z : Int) : FS C (W.setCell ⟨C.rb, k, none⟩ (.int .i64 z)) sb (fun j => if j = k then z else R j) D T := by
  have kp : ∀ b c t, t ≠ 3 → W.heap[b]? = some (Obj.cells c t) → (W.setCell ⟨C.rb, k, none⟩ (.int .i64 z)).heap[b]? = some (Obj.cells c t) := fun b c t ht hk => (heap_setCell_other _ (cells_ne hk h.room ht)).trans hk
  refine ⟨Ext.setCell h.low hr _, kp _ _ _ (by decide) h.bd, kp _ _ _ (by decide) h.bs, kp _ _ _ (by decide) h.bh, kp _ _ _ (by decide) h.br, kp _ _ _ (by decide) h.bf, kp _ _ _ (by decide) h.bz, ?_, kp _ _ _ (by decide) h.has, fun o a b => ?_, kp _ _ _ (by decide) h.seen, h.sb⟩
  · rw [tab_put h.room]
    congr 2
    refine tabV_congr fun j _ => ?_
    split <;> rfl
  · obtain ⟨fn, h1, h2⟩ := h.maps o a b
    exact ⟨fn, h1.of_block (heap_setCell_other _ (fun e => map_ne h.room h1 e.symm)), h2⟩
/-- A map is turned. -/
theorem FS.put {C : FC} (hC : C.ok) {W W' : World} {sb : Nat} {R : Nat → Int} {D : Nat → Nat → Bool} {T : Nat → Bool} (h : FS C W sb R D T) {o : Nat} (ho : o < C.ms.length) (hf : C.f ≤ o) {fn : Int → Bool} (k : Nat) (c : Bool)
    (hfn : ∀ k, k < C.ids.length → fn (k : Int) = D o k) (hb : BM W (C.hm o) fn) (hm : BM W' (C.hm o) (setF fn (k : Int) c)) (hg : W.grownBy W' (some (C.hm o))) : FS C W' sb R (putD D o k c) T := by
  have kp : ∀ b c t, W.heap[b]? = some (Obj.cells c t) → W'.heap[b]? = some (Obj.cells c t) := fun b c t hk => (hg.block b (Rg.lt_of_heap hk) (fun e => map_ne hk hb (by injection e))).trans hk
  refine ⟨grown_low h.low (hC.hm o ho) hg, kp _ _ _ h.bd, kp _ _ _ h.bs, kp _ _ _ h.bh, kp _ _ _ h.br, kp _ _ _ h.bf, kp _ _ _ h.bz, kp _ _ _ h.room, kp _ _ _ h.has, fun q a b => ?_, kp _ _ _ h.seen, h.sb⟩
  by_cases e : q = o
  · subst e
    refine ⟨_, hm, fun j hj => ?_⟩
    unfold setF putD
    by_cases e2 : j = k
    · subst e2; simp
    · rw [if_neg (by omega), if_neg (fun h => e2 h.2)]
      exact hfn j hj
  · obtain ⟨fn2, h1, h2⟩ := h.maps q a b
    refine ⟨fn2, h1.kept hg (fun e2 => e (hC.inj q o b ho (by injection e2))), fun j hj => ?_⟩
    rw [h2 j hj, putD_row e]
def unsn (S : Nat → Bool) (m : Nat) : Nat := sm (fun k => (!S k).toNat) m
theorem unsn_lt {S U : Nat → Bool} {m k : Nat} (hm : ∀ j, S j = true → U j = true) (hk : k < m) (hU : U k = false) : unsn (Proofs.Ytlekdhhgjhakgaa.seen U k) m < unsn S m := by
  refine sm_lt k hk (fun j _ => ?_) ?_
  · cases h : S j
    · exact Bool.toNat_le _
    · have := hm j h
      unfold Proofs.Ytlekdhhgjhakgaa.seen
      split <;> simp [this]
  · have h1 : S k = false := by
      cases h : S k
      · rfl
      · rw [hm k h] at hU; cases hU
    simp [seen_at, h1]
theorem mayR_at {B : Nat} {w : World} {mv : Value} {us : List Value} {ms : List (List Nat)} (h : MayR B w mv us ms) {o : Nat} (ho : o < ms.length) :
    ∃ g cap, mv = .slice (some ⟨g, 0, none⟩) ms.length cap ∧ g < w.heap.size ∧ ∃ a c, w.cell? ⟨g, o, none⟩ = some (.slice a (ms[o]).length c) ∧ (ms[o] = [] ∨ ∃ b, a = some ⟨b, 0, none⟩ ∧ b < w.heap.size ∧ ∀ k (hk : k < (ms[o]).length), w.cell? ⟨b, k, none⟩ = some (.int .i64 ((ms[o])[k] : Nat))) := by
  have ho' : o < us.length := by rw [h.len]; exact ho
  rcases h.row.2 with ⟨-, h0⟩ | ⟨g, cap, cur, rfl, hB, hg, h1, h2, h3, h4⟩
  · omega
  · have hc : w.cell? ⟨g, o, none⟩ = some us[o] := by
      have := World.ownsRow.cellAt h.row o (by omega)
      have e : us.flatMap cel1 = us := by
        have : ∀ l : List Value, l.flatMap cel1 = l := fun l => by
          induction l with
          | nil => rfl
          | cons x l ih => rw [List.flatMap_cons, ih]; rfl
        exact this us
      rw [e, List.getElem?_eq_getElem ho'] at this
      exact this
    have hr := h.el o ho ho'
    obtain ⟨A, c, hA, -, -, hcells⟩ := row_formI hr
    refine ⟨g, cap, by rw [h.len], Rg.lt_of_heap hg, A, c, by rw [hc, hA, natI_len], ?_⟩
    rcases hcells with ⟨h5, -, -⟩ | ⟨b, h5, -, h6⟩
    · left
      have := congrArg List.length h5
      rw [natI_len] at this
      exact List.length_eq_zero_iff.1 this
    · by_cases e : ms[o] = []
      · exact .inl e
      · have hp : 0 < (natI ms[o]).length := by rw [natI_len]; exact List.length_pos_iff.2 e
        refine .inr ⟨b, h5, World.block_lt_of_cell? w _ (h6 0 hp), fun k hk => ?_⟩
        have := h6 k (by rw [natI_len]; exact hk)
        rw [this]
        simp [natI]
end Go.Proofs.Ytlekdhhgjhakgaa

namespace Go.Proofs.Ytlekdhhgjhakgaa
set_option linter.unusedVariables false
set_option linter.unusedSimpArgs false
open Go.RowKit
theorem FS.c {C : FC} {W : World} {sb : Nat} {R : Nat → Int} {D : Nat → Nat → Bool} {T : Nat → Bool} (h : FS C W sb R D T) :
    W.cell? ⟨C.bd, 0, none⟩ = some (.pointer (some ⟨C.p, 0, none⟩)) ∧ W.cell? ⟨C.bs, 0, none⟩ = some (.slice (some ⟨sb, 0, none⟩) C.ids.length C.ids.length) ∧ W.cell? ⟨C.bh, 0, none⟩ = some (.slice (some ⟨C.hb, 0, none⟩) C.ms.length C.ms.length) ∧
    W.cell? ⟨C.br, 0, none⟩ = some (.slice (some ⟨C.rb, 0, none⟩) C.ids.length C.ids.length) ∧ W.cell? ⟨C.bf, 0, none⟩ = some (.slice C.fA C.f C.fc) ∧
    W.cell? ⟨C.bz, 0, none⟩ = some (.func (.func 54) #[] #[.pointer (some ⟨C.bd, 0, none⟩), .pointer (some ⟨C.bs, 0, none⟩), .pointer (some ⟨C.bh, 0, none⟩), .pointer (some ⟨C.br, 0, none⟩), .pointer (some ⟨C.bf, 0, none⟩), .pointer (some ⟨C.bz, 0, none⟩)]) :=
  ⟨cell_of_row W _ 0 _ _ _ h.bd, cell_of_row W _ 0 _ _ _ h.bs, cell_of_row W _ 0 _ _ _ h.bh, cell_of_row W _ 0 _ _ _ h.br, cell_of_row W _ 0 _ _ _ h.bf, cell_of_row W _ 0 _ _ _ h.bz⟩
theorem FS.look_at {C : FC} {W : World} {sb : Nat} {R : Nat → Int} {D : Nat → Nat → Bool} {T : Nat → Bool} (h : FS C W sb R D T) (hm : C.ids.length ≤ 1000) {o k : Nat} (ho : o < C.ms.length) (hf : C.f ≤ o) (hk : k < C.ids.length) :
    ∃ fn, BM W (C.hm o) fn ∧ (∀ k, k < C.ids.length → fn (k : Int) = D o k) ∧ (Instr.lookup 66 (.map (some (C.hm o))) (.int .i64 k) false).run Try.prog W = .ok (.bool (D o k)) W := by
  obtain ⟨fn, h1, h2⟩ := h.maps o hf ho
  exact ⟨fn, h1, h2, by rw [h1.look (okI_small (by omega)) W rfl, h2 k hk]⟩
theorem wrap_small {z : Int} (h : -1000000000 ≤ z ∧ z ≤ 1000000000) : IntKind.i64.wrap z = z := by
  rw [IntKind.wrap_i64]
  omega
theorem FS.rcongr {C : FC} {W : World} {sb : Nat} {R R' : Nat → Int} {D : Nat → Nat → Bool} {T : Nat → Bool} (h : FS C W sb R D T) (e : ∀ k, k < C.ids.length → R k = R' k) : FS C W sb R' D T :=
  ⟨h.low, h.bd, h.bs, h.bh, h.br, h.bf, h.bz, h.room.trans (by rw [tabV_congr fun k hk => by rw [e k hk]]), h.has, h.maps, h.seen, h.sb⟩
theorem unsn_le {A B : Nat → Bool} {m : Nat} (h : ∀ j, A j = true → B j = true) : unsn B m ≤ unsn A m := sm_le fun j _ => by
  cases hA : A j
  · exact Bool.toNat_le _
  · rw [h j hA]; exact Nat.le_refl _
def Rok (C : FC) (L : Nat) (R : Nat → Int) (D : Nat → Nat → Bool) : Prop := ∀ k, k < C.ids.length → R k = (L : Int) - cnt D C.ms.length k
set_option maxRecDepth 100000 in
set_option maxHeartbeats 8000000 in
theorem find_any (C : FC) (hC : C.ok) (L : Nat) (hL : L ≤ 1000) :
    ∀ (N : Nat) (S : Nat → Bool) (D : Nat → Nat → Bool) (R : Nat → Int) (sb b : Nat) (W : World), unsn S C.ids.length < N → FS C W sb R D S → Rok C L R D → (∀ k, k < C.ids.length → cnt D C.ms.length k ≤ L) → C.f ≤ b → b < C.ms.length →
      Calls Try.prog 54 #[.int .i64 b, .pointer (some ⟨C.bd, 0, none⟩), .pointer (some ⟨C.bs, 0, none⟩), .pointer (some ⟨C.bh, 0, none⟩), .pointer (some ⟨C.br, 0, none⟩), .pointer (some ⟨C.bf, 0, none⟩), .pointer (some ⟨C.bz, 0, none⟩)] W fun e W' =>
        ∃ res E T R', e = .returned (.bool res) ∧ FS C W' sb R' E T ∧ Rok C L R' E ∧ Fnd (rowF C.ms) C.ms.length C.ids.length L C.f b D S E T res := by
  intro N
  induction N with
  | zero => intro S D R sb b W hN; omega
  | succ N ih =>
  intro S D R sb b W hN hS hR hc hf hb
  obtain ⟨g, cap, hmv, hg, a, cA, hrow, hel⟩ := mayR_at hC.dk.may hb
  have hplt := Rg.lt_of_heap hC.dk.at_
  obtain ⟨e0, -⟩ := hS.c
  have e1 : W.cell? ⟨C.p, 1, none⟩ = some (.slice (some ⟨g, 0, none⟩) C.ms.length cap) := by
    rw [hS.low.cells.1 _ _ hplt, cell_of_row C.w0 C.p 1 _ _ _ hC.dk.at_]
    exact congrArg some hmv
  have e2 := (hS.low.cells.1 _ _ hg).trans hrow
  have HLT : Hid (∀ k ∈ C.ms[b], k < C.ids.length) := Lib.hid (hC.may.lt _ (List.getElem_mem hb))
  have HMB : Hid (∀ k, rowF C.ms b k = decide (k ∈ C.ms[b])) := Lib.hid fun k => by unfold rowF; rw [getD_at hb]
  have HEL := Lib.hid hel; have HS := Lib.hid hS; have HR := Lib.hid hR; have HCN := Lib.hid hc; have HC := Lib.hid hC; have HN := Lib.hid hN
  have hm1 := hC.m
  have hn1 := hC.n
  have hwb : b ≤ 1000 := by omega
  have hml : (C.ms[b]).length ≤ 1000000 := by
    have h1 := hC.may.nodup (List.getElem_mem hb) (List.Sublist.refl _)
    have h2 := sm_mem h1.1 h1.2
    have h3 : sm (fun k => (decide (k ∈ C.ms[b])).toNat) C.ids.length ≤ sm (fun _ => 1) C.ids.length := sm_le fun _ _ => Bool.toNat_le _
    rw [sm_const, h2] at h3
    omega
  generalize C.ms[b] = l at *
  clear hel hS hR hc hC hrow hg hplt hmv hN
  go_enter Try.func54, Try.ntmps54
  go_wp2_with (fail)
  clear e0 e1 e2
  go_loopw [20] (fun kv wr => ∃ (j : Nat) (U : Nat → Bool), kv = .int .i64 j ∧ j ≤ l.length ∧ Hid (FS C wr sb R D U) ∧ Hid (Run (rowF C.ms) C.ms.length C.ids.length L C.f D S U none) ∧ Hid (∀ x ∈ l.take j, U x = true ∨ D b x = true)) (fun kv _ => l.length - (iof kv).toNat)
  case atStart => exact ⟨0, S, rfl, by omega, HS, Lib.hid (Run.start _ _ _ _ _ _ _), Lib.hid (by simp)⟩
  case round =>
    obtain ⟨j, U, rfl, hj, HF, HRN, HDN⟩ := hrel
    clear HS
    by_cases hjl : j < l.length
    · obtain ⟨ga, rfl, hga, hcl⟩ := HEL.out.resolve_left (fun h0 => by rw [h0] at hjl; simp at hjl)
      have ck := (HF.out.low.cells.1 _ _ hga).trans (hcl j hjl)
      have hkm := HLT.out l[j] (List.getElem_mem hjl)
      have HKL : Hid (l[j] ∈ l) := Lib.hid (List.getElem_mem hjl)
      have HTK : Hid (l.take (j + 1) = l.take j ++ [l[j]]) := Lib.hid (List.take_succ_eq_append_getElem hjl)
      generalize l[j] = k at *
      obtain ⟨c0, c1, c2, c3, c4, c5⟩ := HF.out.c
      have s1 := tab_cell HF.out.seen hkm
      have s1f := tab_frozen (o := k) HF.out.seen
      have h1 := tab_cell HF.out.has hb
      obtain ⟨fb, hfb, hfbe, l1⟩ := HF.out.look_at hm1 hb hf hkm
      cases hU : U k with
      | true =>
        rw [hU] at s1
        go_wp2_with (fail)
        exact ⟨⟨j + 1, U, by simp, by omega, HF, HRN, Lib.hid (by rw [HTK.out]; intro x hx; rcases List.mem_append.1 hx with hx | hx; exact HDN.out x hx; rw [List.mem_singleton.1 hx]; exact .inl hU)⟩, by simp [iof]; omega⟩
      | false =>
        rw [hU] at s1
        cases hD : D b k with
        | true =>
          rw [hD] at l1
          go_wp2_with (fail)
          exact ⟨⟨j + 1, U, by simp, by omega, HF, HRN, Lib.hid (by rw [HTK.out]; intro x hx; rcases List.mem_append.1 hx with hx | hx; exact HDN.out x hx; rw [List.mem_singleton.1 hx]; exact .inr hD)⟩, by simp [iof]; omega⟩
        | false =>
          rw [hD] at l1
          have HF5 := Lib.hid (HF.out.look k)
          have HR5 := Lib.hid (HRN.out.look k)
          have HUS : Hid (unsn (seen U k) C.ids.length < N) := Lib.hid (by have := unsn_lt HRN.out.mono hkm hU; have := HN.out; omega)
          go_upto_region 6 with (fail)
          clear HF c0 c1 c2 c3 c4 c5 h1 l1 hfb hfbe s1 s1f ck hcl HEL hga
          generalize wr.setCell ⟨sb, k, none⟩ (.bool true) = W5 at *
          obtain ⟨c0, c1, c2, c3, c4, c5⟩ := HF5.out.c
          have r1 := tab_cell HF5.out.room hkm
          have r1f := tab_frozen (o := k) HF5.out.room
          have HRk := Lib.hid (HR.out k hkm)
          obtain ⟨z, hz⟩ : ∃ z, z = R k := ⟨_, rfl⟩
          rw [← hz] at r1 HRk
          have HZ := Lib.hid hz
          clear hz
          have hz1 : z ≤ 1000 := by have := HRk.out; omega
          by_cases hroom : 0 < z
          · have HCL : Hid (cnt D C.ms.length k < L) := Lib.hid (by have := HRk.out; omega)
            have hw : IntKind.i64.wrap (z - 1) = z - 1 := wrap_small (by omega)
            have HF7 := Lib.hid (HF5.out.turn HC.out.rb k (z - 1))
            go_upto_region 8 with (fail)
            clear HF5 c0 c1 c2 c3 c4 c5 r1 r1f hz1 hw
            generalize W5.setCell ⟨C.rb, k, none⟩ (.int .i64 (z - 1)) = W7 at *
            obtain ⟨c0, c1, c2, c3, c4, c5⟩ := HF7.out.c
            have h1 := tab_cell HF7.out.has hb
            obtain ⟨fb, hfb, hfbe, -⟩ := HF7.out.look_at hm1 hb hf hkm
            go_upto_region 9 with (refine wpList_putB rfl (.tmp 53) (.tmp 54) (.const (.bool true)) rfl (C.hm b) fb (by rfl) hfb k (by rfl) (okI_small (by omega)) true (by rfl) ?_; intro W9 hm9 hg9)
            have HF9 := Lib.hid (HF7.out.put HC.out hb hf k true hfbe hfb hm9 hg9)
            clear hm9 hg9 HF7 c0 c1 c2 c3 c4 c5 h1
            have HUT := Lib.hid hU
            clear hU
            go_wp2_with (fail)
            go_ret
            refine ⟨true, putD D b k true, seen U k, _, rfl, HF9.out, fun j hj => ?_, fnd_take HRN.out.mono hkm HUT.out hb hf hD (by rw [HMB.out]; exact decide_eq_true HKL.out) HCN.out HCL.out⟩
            show (if j = k then z - 1 else R j) = _
            by_cases e : j = k
            · subst e
              rw [if_pos rfl, cnt_in hD hb, HZ.out, HR.out j hj]
              omega
            · rw [if_neg e, cnt_col e, HR.out j hj]
          · have HCL : Hid (L ≤ cnt D C.ms.length k) := Lib.hid (by have := HRk.out; omega)
            have hfn : C.f ≤ C.ms.length := by omega
            have HUk := Lib.hid (seen_at U k)
            have HUV : Hid (∀ j, U j = true → seen U k j = true) := Lib.hid fun j hj => seen_up hj
            have HUT := Lib.hid hU; have HDT := Lib.hid hD
            clear hU hD
            generalize seen U k = V at *
            go_wp2_with (fail)
            go_loopw [11] (fun ov wq => ∃ (o : Nat) (T : Nat → Bool), ov = .int .i64 o ∧ C.f ≤ o ∧ o ≤ C.ms.length ∧ Hid (FS C wq sb R D T) ∧ Hid (Run (rowF C.ms) C.ms.length C.ids.length L C.f D S T (some k)) ∧ Hid (∀ j, V j = true → T j = true) ∧ Hid (∀ p, C.f ≤ p → p < o → D p k = true → Clo (rowF C.ms) C.ids.length D p T)) (fun ov _ => C.ms.length - (iof ov).toNat)
            case atStart => exact ⟨C.f, V, rfl, by omega, hfn, HF5, HR5, Lib.hid fun _ h => h, Lib.hid fun p h1 h2 => by omega⟩
            case round =>
              obtain ⟨o, T, rfl, hfo, hon, HF, HRT, HVT, HCO⟩ := hrel
              clear HF5 HR5 r1 r1f c0 c1 c2 c3 c4 c5
              obtain ⟨c0, c1, c2, c3, c4, c5⟩ := HF.out.c
              by_cases hol : o < C.ms.length
              · by_cases hob : o = b
                · subst hob
                  go_wp2_with (fail)
                  exact ⟨⟨o + 1, T, by simp, by omega, by omega, HF, HRT, HVT, Lib.hid fun p h1 h2 h3 => by
                    by_cases e : p = o
                    · subst e; rw [HDT.out] at h3; cases h3
                    · exact HCO.out p h1 (by omega) h3⟩, by simp [iof]; omega⟩
                · have hob2 : ¬ (o : Int) = (b : Int) := by omega
                  have h1 := tab_cell HF.out.has hol
                  obtain ⟨fo, hfo1, hfo2, l1⟩ := HF.out.look_at hm1 hol hfo hkm
                  cases hDo : D o k with
                  | false =>
                    rw [hDo] at l1
                    have HDo := Lib.hid hDo
                    clear hDo
                    go_wp2_with (fail)
                    exact ⟨⟨o + 1, T, by simp, by omega, by omega, HF, HRT, HVT, Lib.hid fun p h1 h2 h3 => by
                      by_cases e : p = o
                      · subst e; rw [HDo.out] at h3; cases h3
                      · exact HCO.out p h1 (by omega) h3⟩, by simp [iof]; omega⟩
                  | true =>
                    rw [hDo] at l1
                    have HDo := Lib.hid hDo
                    clear hDo
                    have HIH := Lib.hid (ih T D R sb o wr (Nat.lt_of_le_of_lt (unsn_le HVT.out) HUS.out) HF.out HR.out HCN.out hfo hol)
                    go_wp2_with (first
                      | (go_at_call 54; (with_reducible refine HIH.out.mono ?_); rintro e w5 ⟨res, E, T5, R5, rfl, hF5, hR5, hFn⟩; obtain ⟨d0, d1, d2, d3, d4, d5⟩ := hF5.c; have h2 := tab_cell hF5.has hol; obtain ⟨fo5, hfo5, hfe5, -⟩ := hF5.look_at hm1 hol hfo hkm; cases res)
                      | (refine wpList_delB _ rfl (.tmp 82) (.tmp 83) 3 rfl (C.hm o) fo5 (by rfl) hfo5 k (by rfl) (okI_small (by omega)) ?_; intro w6 hm6 hg6; have hF6 := hF5.put HC.out hol hfo k false hfe5 hfo5 hm6 hg6; clear d0 d1 d2 d3 d4 d5; obtain ⟨d0, d1, d2, d3, d4, d5⟩ := hF6.c; have h3 := tab_cell hF6.has hb; obtain ⟨fb6, hfb6, hfe6, -⟩ := hF6.look_at hm1 hb hf hkm)
                      | (refine wpList_putB rfl (.tmp 87) (.tmp 88) (.const (.bool true)) rfl (C.hm b) fb6 (by rfl) hfb6 k (by rfl) (okI_small (by omega)) true (by rfl) ?_; intro w9 hm9 hg9; have hF9 := hF6.put HC.out hb hf k true hfe6 hfb6 hm9 hg9))
                    · obtain ⟨rfl, -, -⟩ := hFn.no rfl
                      have hR6 : ∀ k, k < C.ids.length → R5 k = R k := fun k hk => (hR5 k hk).trans (HR.out k hk).symm
                      obtain ⟨r1, r2⟩ := HRT.out.fail hFn
                      exact ⟨⟨o + 1, T5, by simp, by omega, by omega, Lib.hid (hF5.rcongr hR6), Lib.hid r1, Lib.hid fun j hj => hFn.mono j (HVT.out j hj), Lib.hid fun p h1 h2 h3 => by
                        by_cases e : p = o
                        · subst e; exact r2
                        · exact (HCO.out p h1 (by omega) h3).mono hFn.mono⟩, by simp [iof]; omega⟩
                    · go_ret
                      have hSk : S k = false := by
                        cases h : S k
                        · rfl
                        · have := HUT.out; rw [HRN.out.mono k h] at this; cases this
                      have hFm := fnd_move (b := b) (k := k) (o := o) HRT.out.mono hkm hSk (HVT.out k HUk.out) hb hf hfo hol hob HDT.out HDo.out (by rw [HMB.out]; exact decide_eq_true HKL.out) hFn
                      refine ⟨true, _, _, _, rfl, hF9, fun j hj => ?_, hFm⟩
                      have hEo : E o k = true := by rw [hFn.col k (HVT.out k HUk.out) o]; exact HDo.out
                      have hEb : (putD E o k false) b k = false := by rw [putD_row (fun e => hob e.symm), hFn.col k (HVT.out k HUk.out) b]; exact HDT.out
                      rw [hR5 j hj]
                      by_cases e : j = k
                      · subst e
                        have h4 := cnt_in hEb hb
                        have h5 := cnt_out hEo hol
                        omega
                      · rw [cnt_col e, cnt_col e]
              · obtain rfl : o = C.ms.length := by omega
                go_wp2_with (fail)
                exact ⟨⟨j + 1, T, by simp, by omega, HF, Lib.hid (HRT.out.next HCL.out fun p h1 h2 h3 => HCO.out p h1 h2 h3), Lib.hid (by rw [HTK.out]; intro x hx; rcases List.mem_append.1 hx with hx | hx; exact (HDN.out x hx).imp (fun h => HVT.out x (HUV.out x h)) id; rw [List.mem_singleton.1 hx]; exact .inl (HVT.out k HUk.out))⟩, by simp [iof]; omega⟩
    · obtain rfl : j = l.length := by omega
      have HX : Hid (Clo (rowF C.ms) C.ids.length D b U) := Lib.hid fun k hk h1 h2 => by
        rw [HMB.out k] at h1
        have := HDN.out k (by rw [List.take_length]; exact of_decide_eq_true h1)
        rcases this with h | h
        · exact h
        · rw [h2] at h; cases h
      go_wp2_with (fail)
      go_ret
      exact ⟨false, D, U, R, rfl, HF.out, HR.out, HRN.out.done_ HX.out⟩
end Go.Proofs.Ytlekdhhgjhakgaa

namespace Go.Proofs.Ytlekdhhgjhakgaa
set_option linter.unusedVariables false
set_option linter.unusedSimpArgs false
open Go.RowKit
theorem made_tab (z : Value) (hz : z.cells = #[z]) (n : Nat) : madeCells z.cells (n * 1) = tabV (fun _ => z) n := by
  rw [hz]
  apply Array.ext
  · simp [madeCells, tabV_size]
  · intro i h1 h2
    simp [madeCells, tabV, Nat.mod_one]
theorem make_T (T E bytes : Nat) {z : Value} (hT : Try.prog.underlying T = some (.slice E)) (hinfo : (Try.prog.info? E).map (fun i => (i.zero, i.size, i.bytes)) = some (some z, 1, bytes)) (hz : z.cells = #[z]) (hby : bytes ≤ 100)
    (w : World) (n : Nat) (hn : n ≤ 1000000) : (Instr.makeSlice T (.int .i64 n) (.int .i64 n)).run Try.prog w = .ok (.slice (some ⟨w.heap.size, 0, none⟩) n n) (w.alloc (.cells (tabV (fun _ => z) n) E)) := by
  obtain ⟨i0, hi, hz0, hz1, hz2⟩ := info_parts hinfo
  have hb : n * bytes ≤ 1000000 * 100 := Nat.mul_le_mul hn hby
  have h := run_make (P := Try.prog) w T E i0 z hT hi hz0 .i64 .i64 n n (by omega) (by omega) (by rw [hz2]; have h3 : ((n * bytes : Nat) : Int) ≤ ((1000000 * 100 : Nat) : Int) := Int.ofNat_le.2 hb; rw [Int.natCast_mul, Int.mul_comm] at h3; omega) (by omega)
  rw [hz1, Int.toNat_natCast, made_tab z hz] at h
  exact h
theorem make_22 (w : World) (n : Nat) (hn : n ≤ 1000000) : (Instr.makeSlice 22 (.int .i64 n) (.int .i64 n)).run Try.prog w = .ok (.slice (some ⟨w.heap.size, 0, none⟩) n n) (w.alloc (.cells (tabV (fun _ => .int .i64 0) n) 3)) :=
  make_T 22 3 8 Try.underlying22 (by kernel_rfl) rfl (by decide) w n hn
theorem make_87 (w : World) (n : Nat) (hn : n ≤ 1000000) : (Instr.makeSlice 87 (.int .i64 n) (.int .i64 n)).run Try.prog w = .ok (.slice (some ⟨w.heap.size, 0, none⟩) n n) (w.alloc (.cells (tabV (fun _ => .bool false) n) 4)) :=
  make_T 87 4 1 Try.underlying87 (by kernel_rfl) rfl (by decide) w n hn
theorem make_97 (w : World) (n : Nat) (hn : n ≤ 1000000) : (Instr.makeSlice 97 (.int .i64 n) (.int .i64 n)).run Try.prog w = .ok (.slice (some ⟨w.heap.size, 0, none⟩) n n) (w.alloc (.cells (tabV (fun _ => .map none) n) 66)) :=
  make_T 97 66 8 Try.underlying97 (by kernel_rfl) rfl (by decide) w n hn
def repV (z : Int) (k m : Nat) : List Value := List.replicate k (.int .i64 z) ++ List.replicate (m - k) (.int .i64 0)
theorem repV_zero (z : Int) (m : Nat) : tabV (fun _ => .int .i64 0) m = (repV z 0 m).toArray := by
  unfold tabV repV
  simp only [List.replicate_zero, List.nil_append, Nat.sub_zero]
  congr 1
  exact List.eq_replicate_iff.2 ⟨by simp, by simp⟩
theorem repV_full (z : Int) (m : Nat) : (repV z m m).toArray = tabV (fun _ => .int .i64 z) m := by
  unfold tabV repV
  simp only [Nat.sub_self, List.replicate_zero, List.append_nil]
  congr 1
  exact (List.eq_replicate_iff.2 ⟨by simp, by simp⟩).symm
theorem repV_splice (z : Int) (k c m : Nat) (h : k + c ≤ m) : splice (repV z k m) k (List.replicate c (.int .i64 z)) = repV z (k + c) m := by
  unfold splice repV
  rw [List.take_left' (by simp), List.length_replicate, List.drop_append, List.drop_eq_nil_of_le (by simp), List.nil_append, ← List.append_assoc, List.replicate_append_replicate]
  congr 1
  rw [List.length_replicate, List.drop_replicate]
  congr 1
  omega
theorem repV_len (z : Int) (k m : Nat) (h : k ≤ m) : (repV z k m).length = m := by simp [repV]; omega
theorem repV_get (z : Int) (k m j : Nat) (h : j < k) : (repV z k m)[j]? = some (.int .i64 z) := by
  unfold repV
  rw [List.getElem?_append_left (by simpa using h)]
  simp [h]
set_option maxRecDepth 100000 in
set_option maxHeartbeats 8000000 in
theorem repeat_any (g : Nat) (z : Int) (m : Nat) (w : World) (h0 : w.cell? ⟨g, 0, none⟩ = some (.int .i64 z)) (hg : g < w.heap.size) (hm : 0 < m ∧ m ≤ 1000) :
    Calls Try.prog 53 #[.slice (some ⟨g, 0, none⟩) 1 1, .int .i64 m] w fun e W => ∃ p, e = .returned (.slice (some ⟨p, 0, none⟩) m m) ∧ w.heap.size ≤ p ∧ W.heap[p]? = some (.cells (tabV (fun _ => .int .i64 z) m) 3) ∧ Ext w W := by
  have hMul := sh_bits_Mul 1 m (by omega) (by omega) w
  rw [Nat.one_mul, Nat.div_eq_of_lt (by omega), Nat.mod_eq_of_lt (by omega), show ((1 : Nat) : Int) = 1 from rfl, show ((0 : Nat) : Int) = 0 from rfl] at hMul
  have hmk := make_22 w m (by omega)
  rw [repV_zero z] at hmk
  have HG := Lib.hid hg
  clear hg
  go_enter Try.func53, Try.ntmps53
  go_upto_region 7 with (go_at_call 61; (with_reducible refine hMul.mono ?_); rintro e w1 ⟨rfl, hw⟩; have hw2 := hw.symm; clear hw; subst hw2)
  have hx1 : Ext w (w.alloc (.cells (repV z 0 m).toArray 3)) := Ext.alloc (Ext.refl _) _
  have hb1 := alloc_at w (.cells (repV z 0 m).toArray 3)
  have c1 := (hx1.cells.1 _ _ HG.out).trans h0
  obtain ⟨p, hp⟩ : ∃ p, p = w.heap.size := ⟨_, rfl⟩
  have HP := Lib.hid hp
  rw [← hp] at hb1 ⊢
  clear hp hmk hMul
  generalize w.alloc (.cells (repV z 0 m).toArray 3) = W1 at *
  have HB1 := Lib.hid hb1; have HX1 := Lib.hid hx1; have HC1 := Lib.hid c1
  clear hb1 hx1 c1 h0
  go_upto_region 8 with ((refine wpList_copy_splice rfl (.tmp 31) (.tmp 32) 22 22 rfl 3 Try.underlying22 (by kernel_rfl) (some ⟨p, 0, none⟩) (some ⟨g, 0, none⟩) m m 1 1 (by rfl) (by rfl) p 0 (repV z 0 m) 3 HB1.out [.int .i64 z] (by simp [Nat.min_def]; omega) (fun _ => ⟨rfl, _, rfl, fun j v hj => by cases j with | zero => (simp at hj; subst hj; exact HC1.out) | succ j => simp at hj⟩) (by simp [repV_len z 0 m (by omega)]; omega) (by simp [Value.oneCell']) w.heap.size w HX1.out (Nat.le_of_eq HP.out.symm) ?_; intro w2 h2 b2))
  have HW2 : Hid (w2.heap[p]? = some (.cells (repV z 1 m).toArray 3)) := Lib.hid (by have := repV_splice z 0 1 m (by omega); rw [Nat.zero_add] at this; rw [← this]; exact h2.out)
  have HX2 := Lib.hid b2
  clear h2 b2 HC1 HB1 HX1
  go_loopw [8] (fun kv wr => ∃ k : Nat, kv = .int .i64 k ∧ 0 < k ∧ k ≤ m ∧ Hid (wr.heap[p]? = some (.cells (repV z k m).toArray 3)) ∧ Hid (Below w.heap.size w wr)) (fun kv _ => m - (iof kv).toNat)
  case atStart => exact ⟨1, rfl, by omega, by omega, HW2, HX2⟩
  case round =>
    obtain ⟨k, rfl, hk0, hk, HW, HX⟩ := hrel
    clear HW2 HX2
    by_cases hkm : k < m
    · obtain ⟨c, hc⟩ : ∃ c, c = min k (m - k) := ⟨_, rfl⟩
      have HCM := Lib.hid hc
      have hmk : ¬ m = k := by omega
      have hc1 : 0 < c := by omega
      have hc2 : k + c ≤ m := by omega
      have hsb : ((m : Int) - (k : Int)) = ((m - k : Nat) : Int) := by omega
      clear hc
      go_upto_region 9 with (fail)
      go_region_law (refine step_copy_splice rfl (.tmp 41) (.tmp 44) 22 22 rfl 3 Try.underlying22 (by kernel_rfl) (some ⟨p, k, none⟩) (some ⟨p, 0, none⟩) (m - k) (m - k) k m (by simp [Act.eval, Act.put]) (by simp [Act.eval, Act.put]) p k (repV z k m) 3 HW.out (List.replicate c (.int .i64 z)) (by simp; exact HCM.out) (fun _ => ⟨rfl, _, rfl, fun j v hj => by rw [Go.WideShapes.add_plain]; have hj1 := (List.getElem?_eq_some_iff.1 hj).1; rw [List.length_replicate] at hj1; rw [List.getElem?_replicate, if_pos hj1] at hj; rw [← hj, Nat.zero_add]; exact (cell_of_row wr p j _ _ _ HW.out).trans (by rw [List.getElem?_toArray]; exact repV_get z k m j (by have := HCM.out; omega))⟩) (by simp [repV_len z k m hk]; omega) (by simp [Value.oneCell']) w.heap.size w ⟨HX.out.os, HX.out.tape, HX.out.output, HX.out.size, HX.out.block⟩ (Nat.le_of_eq HP.out.symm) ?_; intro w2 h2 b2)
      have HW5 := h2.out
      rw [repV_splice z k c m hc2] at HW5
      have hgi : goInt (List.replicate c (Value.int .i64 z)).length = .int .i64 c := by rw [List.length_replicate]; rfl
      have hkc : IntKind.i64.wrap ((k : Int) + (c : Int)) = (k : Int) + c := by rw [IntKind.wrap_i64]; omega
      refine ⟨⟨_, _, _, _, _, _, _, _, _, _, _, _, _, _, ⟨k + c, ?_, by omega, hc2, Lib.hid HW5, Lib.hid b2⟩, rfl⟩, ?_⟩
      · simp [hkc]
      · refine Nat.lt_of_le_of_lt (Nat.le_of_eq (congrArg (fun v => m - (iof v).toNat) (show _ = Value.int .i64 ((k : Int) + c) from ?_))) ?_
        · simp [hkc]
          rfl
        · simp [iof]; omega
    · obtain rfl : k = m := by omega
      have HF := HW.out
      rw [repV_full] at HF
      go_wp2_with (fail)
      go_ret
      exact ⟨p, rfl, Nat.le_of_eq HP.out.symm, HF, HX.out⟩
end Go.Proofs.Ytlekdhhgjhakgaa
