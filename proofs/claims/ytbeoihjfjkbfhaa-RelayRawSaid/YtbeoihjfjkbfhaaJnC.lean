/-
  Joined: the lemmas of this claim that other texts of it use, part 3. Nothing is asked.
-/
import Derived.Test.YtbeoihjfjkbfhaaJnB
import Derived.ProofKit
import Derived.OpenShut
import Derived.Below
import Derived.ChangeSame
import Derived.ReadAgain
import Derived.ChangeSlices
import Derived.ChangeReads
import Derived.ChangeOld
import Derived.ChangeStays
import Derived.Maps.OwnSet
import Derived.Maps.RangeWalk
import Derived.Shelf.SlSortCmp.NoneTotal
import Derived.Shelf.Small.Strs
import Derived.Ground.SlsfProg
namespace Go.Proofs.Ytbeoihjfjkbfhaa
set_option linter.unusedVariables false
set_option linter.unusedSimpArgs false
open Go.RowKit
theorem index_str (b : ByteArray) {k : Nat} {z : Int} (h : k < b.size) (hz : z = k) (w : World) :
    (Instr.index 9 (.string b) (.int .i64 z)).run Try.prog w = .ok (.int .u8 ((bytesI b).getD k 0)) w := by
  subst hz
  rw [run_index_string w 9 b .i64 k Try.underlying9, dif_pos ⟨by omega, by omega⟩]
  congr 2
  unfold bytesI
  rw [List.getD_eq_getElem?_getD, List.getElem?_map, List.getElem?_eq_getElem (by rw [Array.length_toList]; exact h)]
  rfl
theorem getD_in (b : ByteArray) (k : Nat) : 0 ≤ (bytesI b).getD k 0 ∧ (bytesI b).getD k 0 < 256 := by
  rw [List.getD_eq_getElem?_getD]
  cases h : (bytesI b)[k]? with
  | none => exact ⟨by decide, by decide⟩
  | some x => exact bytesI_in b x (List.mem_of_getElem? h)
theorem Bt.setRow' {q : Nat} {a b : World} (h : Bt q a b) (xs : Array Value) : Bt q a (b.setRow q xs) :=
  ⟨h.os, h.tape, h.output, by simpa using h.size, fun i hi hq => (setRow_other _ _ _ _ (by omega)).trans (h.block i hi hq)⟩
theorem rot_ext (x : Int) (n : Nat) (h : n ∈ [2, 6, 7, 11, 13, 17, 18, 19, 22, 25]) (w : World) :
    Calls Try.prog 81 #[.int .u32 x, .int .i64 n] w fun e w' => e = .returned (.int .u32 (rotr x n)) ∧ Ext w w' :=
  (rot_at x n h w).mono (fun e w' h => by obtain ⟨h1, k, rfl⟩ := h; exact ⟨h1, (Ext.refl w).drewN k⟩)
theorem rot_2 (x : Int) (w : World) : Calls Try.prog 81 #[.int .u32 x, .int .i64 2] w fun e w' => e = .returned (.int .u32 (rotr x 2)) ∧ Ext w w' := rot_ext x 2 (by decide) w
theorem rot_6 (x : Int) (w : World) : Calls Try.prog 81 #[.int .u32 x, .int .i64 6] w fun e w' => e = .returned (.int .u32 (rotr x 6)) ∧ Ext w w' := rot_ext x 6 (by decide) w
theorem rot_7 (x : Int) (w : World) : Calls Try.prog 81 #[.int .u32 x, .int .i64 7] w fun e w' => e = .returned (.int .u32 (rotr x 7)) ∧ Ext w w' := rot_ext x 7 (by decide) w
theorem rot_11 (x : Int) (w : World) : Calls Try.prog 81 #[.int .u32 x, .int .i64 11] w fun e w' => e = .returned (.int .u32 (rotr x 11)) ∧ Ext w w' := rot_ext x 11 (by decide) w
theorem rot_13 (x : Int) (w : World) : Calls Try.prog 81 #[.int .u32 x, .int .i64 13] w fun e w' => e = .returned (.int .u32 (rotr x 13)) ∧ Ext w w' := rot_ext x 13 (by decide) w
theorem rot_17 (x : Int) (w : World) : Calls Try.prog 81 #[.int .u32 x, .int .i64 17] w fun e w' => e = .returned (.int .u32 (rotr x 17)) ∧ Ext w w' := rot_ext x 17 (by decide) w
theorem rot_18 (x : Int) (w : World) : Calls Try.prog 81 #[.int .u32 x, .int .i64 18] w fun e w' => e = .returned (.int .u32 (rotr x 18)) ∧ Ext w w' := rot_ext x 18 (by decide) w
theorem rot_19 (x : Int) (w : World) : Calls Try.prog 81 #[.int .u32 x, .int .i64 19] w fun e w' => e = .returned (.int .u32 (rotr x 19)) ∧ Ext w w' := rot_ext x 19 (by decide) w
theorem rot_22 (x : Int) (w : World) : Calls Try.prog 81 #[.int .u32 x, .int .i64 22] w fun e w' => e = .returned (.int .u32 (rotr x 22)) ∧ Ext w w' := rot_ext x 22 (by decide) w
theorem rot_25 (x : Int) (w : World) : Calls Try.prog 81 #[.int .u32 x, .int .i64 25] w fun e w' => e = .returned (.int .u32 (rotr x 25)) ∧ Ext w w' := rot_ext x 25 (by decide) w
set_option maxRecDepth 100000 in
set_option maxHeartbeats 4000000 in
theorem rblock_any (s : S8) (b : ByteArray) (w : World) (hb : b.size = 64) :
    Calls Try.prog 72 #[.agg (rowN s.l), .string b] w fun e w' => e = .returned (.agg (rowN (blockS s (bytesI b)).l)) ∧ Ext w w' := by
  go_enter Try.func72, Try.ntmps72
  go_upto_region 1 with (fail)
  obtain ⟨p, hp⟩ : ∃ p, p = w.heap.size := ⟨_, rfl⟩
  change Code.wp _ _ _ _ ((w.alloc (.cells (rowN s.l) 90)).alloc (.cells (rowN [0, 0, 0, 0, 0, 0, 0, 0]) 90))
  have hW2 := (two_blocks w (.cells (rowN s.l) 90) (.cells (rowN [0, 0, 0, 0, 0, 0, 0, 0]) 90))
  have hx2 : Ext w ((w.alloc (.cells (rowN s.l) 90)).alloc (.cells (rowN [0, 0, 0, 0, 0, 0, 0, 0]) 90)) := Ext.alloc (Ext.alloc (Ext.refl _) _) _
  rw [← hp] at hW2 ⊢
  have HP := Lib.hid hp
  clear hp
  generalize ((w.alloc (.cells (rowN s.l) 90)).alloc (.cells (rowN [0, 0, 0, 0, 0, 0, 0, 0]) 90)) = W2 at *
  go_upto_region 3 with (first
    | (go_at_call 80; (with_reducible refine (rrounds_any _).mono ?_); rintro e w3 ⟨rfl, hx3⟩)
    | (refine wpList_store_row (hgd := rfl) 109 (.tmp 5) (.tmp 17) rfl w3.heap.size (by rfl) (rowN K64) (by rfl) (rowW []) 109 (alloc_at w3 _) (by rfl) (by kernel_rfl) (rowN_one _) ?_))
  change Code.wp _ _ _ _ (((w3.alloc (.cells (rowW []) 109)).setRow w3.heap.size (rowN K64)).alloc (.cells (rowW []) 109))
  have hw32 : p + 2 ≤ w3.heap.size := by
    have h1 := Rg.lt_of_heap hW2.2
    have h2 := hx3.size
    omega
  obtain ⟨q, hq⟩ : ∃ q, q = w3.heap.size := ⟨_, rfl⟩
  have hk0 : (w3.alloc (.cells (rowW []) 109)).heap[q]? = some (.cells (rowW []) 109) := by rw [hq]; exact alloc_at w3 _
  have hk1 : ((w3.alloc (.cells (rowW []) 109)).setRow q (rowN K64)).heap[q]? = some (.cells (rowN K64) 109) := setRow_heap _ _ _ _ _ _ hk0
  have hx4 : Ext W2 (((w3.alloc (.cells (rowW []) 109)).setRow q (rowN K64)).alloc (.cells (rowW []) 109)) :=
    Ext.alloc (below_setRow (Ext.alloc hx3 _) (by rw [hq]; exact hx3.size) _) _
  have hk2 : (((w3.alloc (.cells (rowW []) 109)).setRow q (rowN K64)).alloc (.cells (rowW []) 109)).heap[q]? = some (.cells (rowN K64) 109) :=
    ((Ext.alloc (Ext.refl _) (.cells (rowW []) 109)).block q (Rg.lt_of_heap hk1)).trans hk1
  have hk3 : (((w3.alloc (.cells (rowW []) 109)).setRow q (rowN K64)).alloc (.cells (rowW []) 109)).heap[q + 1]? = some (.cells (rowW []) 109) := by
    have h := alloc_at ((w3.alloc (.cells (rowW []) 109)).setRow q (rowN K64)) (.cells (rowW []) 109)
    rw [show ((w3.alloc (.cells (rowW []) 109)).setRow q (rowN K64)).heap.size = q + 1 by simp [hq]] at h
    exact h
  rw [← hq] at hw32 ⊢
  have hk4 := (hx4.block p (Rg.lt_of_heap hW2.1)).trans hW2.1
  have hk5 := (hx4.block (p + 1) (Rg.lt_of_heap hW2.2)).trans hW2.2
  have hX := hx2.trans hx4
  generalize (((w3.alloc (.cells (rowW []) 109)).setRow q (rowN K64)).alloc (.cells (rowW []) 109)) = W4 at *
  have HX := Lib.hid hX; have HK := Lib.hid hk2; have HWW := Lib.hid hk3; have HS := Lib.hid hk4; have HR := Lib.hid hk5
  clear hX hk0 hk1 hk2 hk3 hk4 hk5 hx4 hx3 hx2 hW2 hq
  go_wp2_with (fail)
  go_loopw [7] (fun k wr => ∃ i : Nat, k = .int .i64 i ∧ i ≤ 64 ∧ Hid (wr.heap[q + 1]? = some (.cells (rowW (sched (bytesI b) i)) 109)) ∧ Hid (Bt (q + 1) W4 wr)) (fun k _ => 64 - (iof k).toNat)
  case atStart => exact ⟨0, rfl, by omega, HWW, Lib.hid (Bt.of_ext (Ext.refl _))⟩
  case round =>
    obtain ⟨i, rfl, hi, HR1, HBT⟩ := hrel
    by_cases hi64 : i < 64
    · by_cases hi16 : i < 16
      · have HN : Hid (nextW (bytesI b) (sched (bytesI b) i) i = wordE ((bytesI b).getD (4 * i) 0) ((bytesI b).getD (4 * i + 1) 0) ((bytesI b).getD (4 * i + 2) 0) ((bytesI b).getD (4 * i + 3) 0)) := Lib.hid (by
          unfold nextW
          rw [if_pos hi16])
        have HS := Lib.hid (sched_len (bytesI b) i)
        have HY : Hid (sched (bytesI b) (i + 1) = sched (bytesI b) i ++ [nextW (bytesI b) (sched (bytesI b) i) i]) := Lib.hid rfl
        have x0 := index_str b (k := 4 * i) (z := 4 * (i : Int)) (by omega) (by omega)
        have x1 := index_str b (k := 4 * i + 1) (z := 4 * (i : Int) + 1) (by omega) (by omega)
        have x2 := index_str b (k := 4 * i + 2) (z := 4 * (i : Int) + 2) (by omega) (by omega)
        have x3 := index_str b (k := 4 * i + 3) (z := 4 * (i : Int) + 3) (by omega) (by omega)
        have r0 := getD_in b (4 * i); have r1 := getD_in b (4 * i + 1); have r2 := getD_in b (4 * i + 2); have r3 := getD_in b (4 * i + 3)
        generalize nextW (bytesI b) (sched (bytesI b) i) i = x at *
        generalize sched (bytesI b) i = l at *
        generalize (bytesI b).getD (4 * i) 0 = b0 at *
        generalize (bytesI b).getD (4 * i + 1) 0 = b1 at *
        generalize (bytesI b).getD (4 * i + 2) 0 = b2 at *
        generalize (bytesI b).getD (4 * i + 3) 0 = b3 at *
        obtain ⟨r00, r01⟩ := r0; obtain ⟨r10, r11⟩ := r1; obtain ⟨r20, r21⟩ := r2; obtain ⟨r30, r31⟩ := r3
        have m0 : IntKind.i64.wrap (4 * (i : Int)) = 4 * i := by rw [IntKind.wrap_i64]; omega
        have m1 : IntKind.i64.wrap (4 * (i : Int) + 1) = 4 * i + 1 := by rw [IntKind.wrap_i64]; omega
        have m2 : IntKind.i64.wrap (4 * (i : Int) + 2) = 4 * i + 2 := by rw [IntKind.wrap_i64]; omega
        have m3 : IntKind.i64.wrap (4 * (i : Int) + 3) = 4 * i + 3 := by rw [IntKind.wrap_i64]; omega
        have cr := cell_of_row wr (q + 1) i _ _ _ HR1.out
        have hlw := HS.out
        obtain ⟨z, hz⟩ : ∃ z, (rowW l)[i]? = some z := ⟨_, Array.getElem?_eq_getElem (by rw [rowW_size (by omega)]; exact hi64)⟩
        rw [hz] at cr
        have hp1 := Rg.lt_of_heap HR1.out
        have fr : wr.frozen? ⟨q + 1, i, none⟩ = false := (Rg.cells_of HR1.out).2.1 _
        clear hlw hz
        go_upto_region 7 with (fail)
        refine Rr.wp_region ((List.range 31).map (fun i => (i, .y))) (fun _ => (.cells #[] 29, Rg.ptr)) (by kernel_rfl) (by kernel_rfl) ?_
        simp only [List.range, List.range.loop, List.map_cons, List.map_nil]
        (refine Rr.wr_y (by simp only [List.getElem?_toArray, List.getElem?_cons_succ, List.getElem?_cons_zero]; rfl) (by rfl) ?_
         apply Exists.intro
         refine ⟨fun wz hw _ => ?_, ?_⟩
         · have hcz := hw.cells.1
           go_simp
           (with_reducible exact Rg.up_value)
         simp only [Act.put, List.setIfInBounds_toArray, List.set_cons_zero, List.set_cons_succ])
        (refine Rr.wr_y (by simp only [List.getElem?_toArray, List.getElem?_cons_succ, List.getElem?_cons_zero]; rfl) (by rfl) ?_
         apply Exists.intro
         refine ⟨fun wz hw _ => ?_, ?_⟩
         · have hcz := hw.cells.1
           go_simp
           (with_reducible exact Rg.up_value)
         simp only [Act.put, List.setIfInBounds_toArray, List.set_cons_zero, List.set_cons_succ])
        (refine Rr.wr_y (by simp only [List.getElem?_toArray, List.getElem?_cons_succ, List.getElem?_cons_zero]; rfl) (by rfl) ?_
         apply Exists.intro
         refine ⟨fun wz hw _ => ?_, ?_⟩
         · have hcz := hw.cells.1
           go_simp
           (with_reducible exact Rg.up_value)
         simp only [Act.put, List.setIfInBounds_toArray, List.set_cons_zero, List.set_cons_succ])
        (refine Rr.wr_y (by simp only [List.getElem?_toArray, List.getElem?_cons_succ, List.getElem?_cons_zero]; rfl) (by rfl) ?_
         apply Exists.intro
         refine ⟨fun wz hw _ => ?_, ?_⟩
         · have hcz := hw.cells.1
           go_simp
           (with_reducible exact Rg.up_value)
         simp only [Act.put, List.setIfInBounds_toArray, List.set_cons_zero, List.set_cons_succ])
        (refine Rr.wr_y (by simp only [List.getElem?_toArray, List.getElem?_cons_succ, List.getElem?_cons_zero]; rfl) (by rfl) ?_
         apply Exists.intro
         refine ⟨fun wz hw _ => ?_, ?_⟩
         · have hcz := hw.cells.1
           go_simp
           (with_reducible exact Rg.up_value)
         simp only [Act.put, List.setIfInBounds_toArray, List.set_cons_zero, List.set_cons_succ])
        (refine Rr.wr_y (by simp only [List.getElem?_toArray, List.getElem?_cons_succ, List.getElem?_cons_zero]; rfl) (by rfl) ?_
         apply Exists.intro
         refine ⟨fun wz hw _ => ?_, ?_⟩
         · have hcz := hw.cells.1
           go_simp
           (with_reducible exact Rg.up_value)
         simp only [Act.put, List.setIfInBounds_toArray, List.set_cons_zero, List.set_cons_succ])
        (refine Rr.wr_y (by simp only [List.getElem?_toArray, List.getElem?_cons_succ, List.getElem?_cons_zero]; rfl) (by rfl) ?_
         apply Exists.intro
         refine ⟨fun wz hw _ => ?_, ?_⟩
         · have hcz := hw.cells.1
           go_simp
           (with_reducible exact Rg.up_value)
         simp only [Act.put, List.setIfInBounds_toArray, List.set_cons_zero, List.set_cons_succ])
        (refine Rr.wr_y (by simp only [List.getElem?_toArray, List.getElem?_cons_succ, List.getElem?_cons_zero]; rfl) (by rfl) ?_
         apply Exists.intro
         refine ⟨fun wz hw _ => ?_, ?_⟩
         · have hcz := hw.cells.1
           go_simp
           (with_reducible exact Rg.up_value)
         simp only [Act.put, List.setIfInBounds_toArray, List.set_cons_zero, List.set_cons_succ])
        (refine Rr.wr_y (by simp only [List.getElem?_toArray, List.getElem?_cons_succ, List.getElem?_cons_zero]; rfl) (by rfl) ?_
         apply Exists.intro
         refine ⟨fun wz hw _ => ?_, ?_⟩
         · have hcz := hw.cells.1
           go_simp
           (with_reducible exact Rg.up_value)
         simp only [Act.put, List.setIfInBounds_toArray, List.set_cons_zero, List.set_cons_succ])
        (refine Rr.wr_y (by simp only [List.getElem?_toArray, List.getElem?_cons_succ, List.getElem?_cons_zero]; rfl) (by rfl) ?_
         apply Exists.intro
         refine ⟨fun wz hw _ => ?_, ?_⟩
         · have hcz := hw.cells.1
           go_simp
           (with_reducible exact Rg.up_value)
         simp only [Act.put, List.setIfInBounds_toArray, List.set_cons_zero, List.set_cons_succ])
        (refine Rr.wr_y (by simp only [List.getElem?_toArray, List.getElem?_cons_succ, List.getElem?_cons_zero]; rfl) (by rfl) ?_
         apply Exists.intro
         refine ⟨fun wz hw _ => ?_, ?_⟩
         · have hcz := hw.cells.1
           go_simp
           (with_reducible exact Rg.up_value)
         simp only [Act.put, List.setIfInBounds_toArray, List.set_cons_zero, List.set_cons_succ])
        (refine Rr.wr_y (by simp only [List.getElem?_toArray, List.getElem?_cons_succ, List.getElem?_cons_zero]; rfl) (by rfl) ?_
         apply Exists.intro
         refine ⟨fun wz hw _ => ?_, ?_⟩
         · have hcz := hw.cells.1
           go_simp
           (with_reducible exact Rg.up_value)
         simp only [Act.put, List.setIfInBounds_toArray, List.set_cons_zero, List.set_cons_succ])
        (refine Rr.wr_y (by simp only [List.getElem?_toArray, List.getElem?_cons_succ, List.getElem?_cons_zero]; rfl) (by rfl) ?_
         apply Exists.intro
         refine ⟨fun wz hw _ => ?_, ?_⟩
         · have hcz := hw.cells.1
           go_simp
           (with_reducible exact Rg.up_value)
         simp only [Act.put, List.setIfInBounds_toArray, List.set_cons_zero, List.set_cons_succ])
        (refine Rr.wr_y (by simp only [List.getElem?_toArray, List.getElem?_cons_succ, List.getElem?_cons_zero]; rfl) (by rfl) ?_
         apply Exists.intro
         refine ⟨fun wz hw _ => ?_, ?_⟩
         · have hcz := hw.cells.1
           go_simp
           (with_reducible exact Rg.up_value)
         simp only [Act.put, List.setIfInBounds_toArray, List.set_cons_zero, List.set_cons_succ])
        (refine Rr.wr_y (by simp only [List.getElem?_toArray, List.getElem?_cons_succ, List.getElem?_cons_zero]; rfl) (by rfl) ?_
         apply Exists.intro
         refine ⟨fun wz hw _ => ?_, ?_⟩
         · have hcz := hw.cells.1
           go_simp
           (with_reducible exact Rg.up_value)
         simp only [Act.put, List.setIfInBounds_toArray, List.set_cons_zero, List.set_cons_succ])
        (refine Rr.wr_y (by simp only [List.getElem?_toArray, List.getElem?_cons_succ, List.getElem?_cons_zero]; rfl) (by rfl) ?_
         apply Exists.intro
         refine ⟨fun wz hw _ => ?_, ?_⟩
         · have hcz := hw.cells.1
           go_simp
           (with_reducible exact Rg.up_value)
         simp only [Act.put, List.setIfInBounds_toArray, List.set_cons_zero, List.set_cons_succ])
        (refine Rr.wr_y (by simp only [List.getElem?_toArray, List.getElem?_cons_succ, List.getElem?_cons_zero]; rfl) (by rfl) ?_
         apply Exists.intro
         refine ⟨fun wz hw _ => ?_, ?_⟩
         · have hcz := hw.cells.1
           go_simp
           (with_reducible exact Rg.up_value)
         simp only [Act.put, List.setIfInBounds_toArray, List.set_cons_zero, List.set_cons_succ])
        (refine Rr.wr_y (by simp only [List.getElem?_toArray, List.getElem?_cons_succ, List.getElem?_cons_zero]; rfl) (by rfl) ?_
         apply Exists.intro
         refine ⟨fun wz hw _ => ?_, ?_⟩
         · have hcz := hw.cells.1
           go_simp
           (with_reducible exact Rg.up_value)
         simp only [Act.put, List.setIfInBounds_toArray, List.set_cons_zero, List.set_cons_succ])
        (refine Rr.wr_y (by simp only [List.getElem?_toArray, List.getElem?_cons_succ, List.getElem?_cons_zero]; rfl) (by rfl) ?_
         apply Exists.intro
         refine ⟨fun wz hw _ => ?_, ?_⟩
         · have hcz := hw.cells.1
           go_simp
           (with_reducible exact Rg.up_value)
         simp only [Act.put, List.setIfInBounds_toArray, List.set_cons_zero, List.set_cons_succ])
        (refine Rr.wr_y (by simp only [List.getElem?_toArray, List.getElem?_cons_succ, List.getElem?_cons_zero]; rfl) (by rfl) ?_
         apply Exists.intro
         refine ⟨fun wz hw _ => ?_, ?_⟩
         · have hcz := hw.cells.1
           go_simp
           (with_reducible exact Rg.up_value)
         simp only [Act.put, List.setIfInBounds_toArray, List.set_cons_zero, List.set_cons_succ])
        (refine Rr.wr_y (by simp only [List.getElem?_toArray, List.getElem?_cons_succ, List.getElem?_cons_zero]; rfl) (by rfl) ?_
         apply Exists.intro
         refine ⟨fun wz hw _ => ?_, ?_⟩
         · have hcz := hw.cells.1
           go_simp
           (with_reducible exact Rg.up_value)
         simp only [Act.put, List.setIfInBounds_toArray, List.set_cons_zero, List.set_cons_succ])
        (refine Rr.wr_y (by simp only [List.getElem?_toArray, List.getElem?_cons_succ, List.getElem?_cons_zero]; rfl) (by rfl) ?_
         apply Exists.intro
         refine ⟨fun wz hw _ => ?_, ?_⟩
         · have hcz := hw.cells.1
           go_simp
           (with_reducible exact Rg.up_value)
         simp only [Act.put, List.setIfInBounds_toArray, List.set_cons_zero, List.set_cons_succ])
        (refine Rr.wr_y (by simp only [List.getElem?_toArray, List.getElem?_cons_succ, List.getElem?_cons_zero]; rfl) (by rfl) ?_
         apply Exists.intro
         refine ⟨fun wz hw _ => ?_, ?_⟩
         · have hcz := hw.cells.1
           go_simp
           (with_reducible exact Rg.up_value)
         simp only [Act.put, List.setIfInBounds_toArray, List.set_cons_zero, List.set_cons_succ])
        (refine Rr.wr_y (by simp only [List.getElem?_toArray, List.getElem?_cons_succ, List.getElem?_cons_zero]; rfl) (by rfl) ?_
         apply Exists.intro
         refine ⟨fun wz hw _ => ?_, ?_⟩
         · have hcz := hw.cells.1
           go_simp
           (with_reducible exact Rg.up_value)
         simp only [Act.put, List.setIfInBounds_toArray, List.set_cons_zero, List.set_cons_succ])
        (refine Rr.wr_y (by simp only [List.getElem?_toArray, List.getElem?_cons_succ, List.getElem?_cons_zero]; rfl) (by rfl) ?_
         apply Exists.intro
         refine ⟨fun wz hw _ => ?_, ?_⟩
         · have hcz := hw.cells.1
           go_simp
           (with_reducible exact Rg.up_value)
         simp only [Act.put, List.setIfInBounds_toArray, List.set_cons_zero, List.set_cons_succ])
        (refine Rr.wr_y (by simp only [List.getElem?_toArray, List.getElem?_cons_succ, List.getElem?_cons_zero]; rfl) (by rfl) ?_
         apply Exists.intro
         refine ⟨fun wz hw _ => ?_, ?_⟩
         · have hcz := hw.cells.1
           go_simp
           (with_reducible exact Rg.up_value)
         simp only [Act.put, List.setIfInBounds_toArray, List.set_cons_zero, List.set_cons_succ])
        (refine Rr.wr_y (by simp only [List.getElem?_toArray, List.getElem?_cons_succ, List.getElem?_cons_zero]; rfl) (by rfl) ?_
         apply Exists.intro
         refine ⟨fun wz hw _ => ?_, ?_⟩
         · have hcz := hw.cells.1
           go_simp
           (with_reducible exact Rg.up_value)
         simp only [Act.put, List.setIfInBounds_toArray, List.set_cons_zero, List.set_cons_succ])
        (refine Rr.wr_y (by simp only [List.getElem?_toArray, List.getElem?_cons_succ, List.getElem?_cons_zero]; rfl) (by rfl) ?_
         apply Exists.intro
         refine ⟨fun wz hw _ => ?_, ?_⟩
         · have hcz := hw.cells.1
           go_simp
           (with_reducible exact Rg.up_value)
         simp only [Act.put, List.setIfInBounds_toArray, List.set_cons_zero, List.set_cons_succ])
        (refine Rr.wr_y (by simp only [List.getElem?_toArray, List.getElem?_cons_succ, List.getElem?_cons_zero]; rfl) (by rfl) ?_
         apply Exists.intro
         refine ⟨fun wz hw _ => ?_, ?_⟩
         · have hcz := hw.cells.1
           go_simp
           (with_reducible exact Rg.up_value)
         simp only [Act.put, List.setIfInBounds_toArray, List.set_cons_zero, List.set_cons_succ])
        (refine Rr.wr_y (by simp only [List.getElem?_toArray, List.getElem?_cons_succ, List.getElem?_cons_zero]; rfl) (by rfl) ?_
         apply Exists.intro
         refine ⟨fun wz hw _ => ?_, ?_⟩
         · have hcz := hw.cells.1
           go_simp
           (with_reducible exact Rg.up_value)
         simp only [Act.put, List.setIfInBounds_toArray, List.set_cons_zero, List.set_cons_succ])
        (refine Rr.wr_y (by simp only [List.getElem?_toArray, List.getElem?_cons_succ, List.getElem?_cons_zero]; rfl) (by rfl) ?_
         apply Exists.intro
         refine ⟨fun wz hw _ => ?_, ?_⟩
         · have hcz := hw.cells.1
           go_simp
           (with_reducible exact Rg.up_value)
         simp only [Act.put, List.setIfInBounds_toArray, List.set_cons_zero, List.set_cons_succ])
        refine Rr.wr_nil ?_
        intro wy hy hh
        simp only [List.length_cons, List.length_nil, List.drop_succ_cons, List.drop_zero, Nat.reduceAdd]
        clear hh
        have dr' : wy.cell? ⟨q + 1, i, none⟩ = some z := (hy.cells.1 _ _ hp1).trans cr
        have df' : wy.frozen? ⟨q + 1, i, none⟩ = false := (hy.cells.2 _ _ hp1).trans fr
        go_wp2_with (fail)
        have HR2 := heap_setCell_row (w := wy) (o := i) (.int .u32 x) ((hy.block _ (Rg.lt_of_heap HR1.out)).trans HR1.out)
        have e1 : (rowW l).setIfInBounds i (.int .u32 x) = rowW (l ++ [x]) := by
          have := rowW_set x (l := l) (by rw [HS.out]; exact hi64)
          rwa [HS.out] at this
        rw [e1, HN.out] at HR2
        refine ⟨⟨i + 1, by simp, by omega, Lib.hid ?_, Lib.hid ((HBT.out.trans (Bt.of_ext hy)).setCell _)⟩, by simp [iof]; omega⟩
        rw [HY.out, HN.out]
        exact HR2
      · have hgd : ∀ k (h : k < (sched (bytesI b) i).length), wr.cell? ⟨q + 1, k, none⟩ = some (.int .u32 ((sched (bytesI b) i).getD k 0)) := fun k h => by
          rw [cell_of_row wr (q + 1) k _ _ _ HR1.out, rowW_get h]
        have HN : Hid (nextW (bytesI b) (sched (bytesI b) i) i = ((sched (bytesI b) i).getD (i - 16) 0 + sigS ((sched (bytesI b) i).getD (i - 15) 0) + (sched (bytesI b) i).getD (i - 7) 0 + sigT ((sched (bytesI b) i).getD (i - 2) 0)) % 4294967296) := Lib.hid (by
          unfold nextW
          rw [if_neg (by omega)])
        have HS := Lib.hid (sched_len (bytesI b) i)
        have HY : Hid (sched (bytesI b) (i + 1) = sched (bytesI b) i ++ [nextW (bytesI b) (sched (bytesI b) i) i]) := Lib.hid rfl
        generalize nextW (bytesI b) (sched (bytesI b) i) i = x at *
        generalize sched (bytesI b) i = l at *
        have hlw := HS.out
        have c0 := hgd (i - 16) (by omega); have c1 := hgd (i - 15) (by omega); have c9 := hgd (i - 7) (by omega); have c14 := hgd (i - 2) (by omega)
        generalize l.getD (i - 16) 0 = y0 at *; generalize l.getD (i - 15) 0 = y1 at *; generalize l.getD (i - 7) 0 = y9 at *; generalize l.getD (i - 2) 0 = y14 at *
        have hp1 := Rg.lt_of_heap HR1.out
        have cr := cell_of_row wr (q + 1) i _ _ _ HR1.out
        obtain ⟨z, hz⟩ : ∃ z, (rowW l)[i]? = some z := ⟨_, Array.getElem?_eq_getElem (by rw [rowW_size (by omega)]; exact hi64)⟩
        rw [hz] at cr
        have fr : wr.frozen? ⟨q + 1, i, none⟩ = false := (Rg.cells_of HR1.out).2.1 _
        clear hlw hgd hz
        have H7 := Lib.hid (rot_7 y1); have H18 := Lib.hid (rot_18 y1); have H17 := Lib.hid (rot_17 y14); have H19 := Lib.hid (rot_19 y14)
        unfold sigS sigT xor32 at HN
        generalize rotr y1 7 = r7 at *; generalize rotr y1 18 = r18 at *; generalize rotr y14 17 = r17 at *; generalize rotr y14 19 = r19 at *
        go_upto_region 10 with (fail)
        have t3 : IntKind.i64.wrap ((i : Int) - 16) = ((i - 16 : Nat) : Int) := by rw [IntKind.wrap_i64]; omega
        have t4 : IntKind.i64.wrap ((i : Int) - 7) = ((i - 7 : Nat) : Int) := by rw [IntKind.wrap_i64]; omega
        have t5 : ((i - 16 : Nat) : Int) < 64 := by omega
        have t6 : ((i - 7 : Nat) : Int) < 64 := by omega
        refine Rr.wp_region ((List.range 29).map (fun i => (i, .y))) (fun _ => (.cells #[] 29, Rg.ptr)) (by kernel_rfl) (by kernel_rfl) ?_
        simp only [List.range, List.range.loop, List.map_cons, List.map_nil]
        (refine Rr.wr_y (by simp only [List.getElem?_toArray, List.getElem?_cons_succ, List.getElem?_cons_zero]; rfl) (by rfl) ?_
         apply Exists.intro
         refine ⟨fun wz hw _ => ?_, ?_⟩
         · have hcz := hw.cells.1
           go_simp
           (with_reducible exact Rg.up_value)
         simp only [Act.put, List.setIfInBounds_toArray, List.set_cons_zero, List.set_cons_succ])
        (refine Rr.wr_y (by simp only [List.getElem?_toArray, List.getElem?_cons_succ, List.getElem?_cons_zero]; rfl) (by rfl) ?_
         apply Exists.intro
         refine ⟨fun wz hw _ => ?_, ?_⟩
         · have hcz := hw.cells.1
           go_simp
           (with_reducible exact Rg.up_value)
         simp only [Act.put, List.setIfInBounds_toArray, List.set_cons_zero, List.set_cons_succ])
        (refine Rr.wr_y (by simp only [List.getElem?_toArray, List.getElem?_cons_succ, List.getElem?_cons_zero]; rfl) (by rfl) ?_
         apply Exists.intro
         refine ⟨fun wz hw _ => ?_, ?_⟩
         · have hcz := hw.cells.1
           go_simp
           (with_reducible exact Rg.up_value)
         simp only [Act.put, List.setIfInBounds_toArray, List.set_cons_zero, List.set_cons_succ])
        (refine Rr.wr_y (by simp only [List.getElem?_toArray, List.getElem?_cons_succ, List.getElem?_cons_zero]; rfl) (by rfl) ?_
         apply Exists.intro
         refine ⟨fun wz hw _ => ?_, ?_⟩
         · have hcz := hw.cells.1
           go_simp
           (with_reducible exact Rg.up_value)
         simp only [Act.put, List.setIfInBounds_toArray, List.set_cons_zero, List.set_cons_succ])
        (refine Rr.wr_y (by simp only [List.getElem?_toArray, List.getElem?_cons_succ, List.getElem?_cons_zero]; rfl) (by rfl) ?_
         apply Exists.intro
         refine ⟨fun wz hw _ => ?_, ?_⟩
         · have hcz := hw.cells.1
           go_simp
           (with_reducible exact Rg.up_value)
         simp only [Act.put, List.setIfInBounds_toArray, List.set_cons_zero, List.set_cons_succ])
        (refine Rr.wr_y (by simp only [List.getElem?_toArray, List.getElem?_cons_succ, List.getElem?_cons_zero]; rfl) (by rfl) ?_
         apply Exists.intro
         refine ⟨fun wz hw _ => ?_, ?_⟩
         · have hcz := hw.cells.1
           go_simp
           (with_reducible exact Rg.up_value)
         simp only [Act.put, List.setIfInBounds_toArray, List.set_cons_zero, List.set_cons_succ])
        (refine Rr.wr_y (by simp only [List.getElem?_toArray, List.getElem?_cons_succ, List.getElem?_cons_zero]; rfl) (by rfl) ?_
         apply Exists.intro
         refine ⟨fun wz hw _ => ?_, ?_⟩
         · have hcz := hw.cells.1
           go_simp
           apply Rg.up_enter
           (with_reducible refine (H7.out _).mono ?_)
           rintro e w3 ⟨rfl, hb3⟩
           exact ⟨rfl, hb3⟩
         simp only [Act.put, List.setIfInBounds_toArray, List.set_cons_zero, List.set_cons_succ])
        (refine Rr.wr_y (by simp only [List.getElem?_toArray, List.getElem?_cons_succ, List.getElem?_cons_zero]; rfl) (by rfl) ?_
         apply Exists.intro
         refine ⟨fun wz hw _ => ?_, ?_⟩
         · have hcz := hw.cells.1
           go_simp
           (with_reducible exact Rg.up_value)
         simp only [Act.put, List.setIfInBounds_toArray, List.set_cons_zero, List.set_cons_succ])
        (refine Rr.wr_y (by simp only [List.getElem?_toArray, List.getElem?_cons_succ, List.getElem?_cons_zero]; rfl) (by rfl) ?_
         apply Exists.intro
         refine ⟨fun wz hw _ => ?_, ?_⟩
         · have hcz := hw.cells.1
           go_simp
           apply Rg.up_enter
           (with_reducible refine (H18.out _).mono ?_)
           rintro e w3 ⟨rfl, hb3⟩
           exact ⟨rfl, hb3⟩
         simp only [Act.put, List.setIfInBounds_toArray, List.set_cons_zero, List.set_cons_succ])
        (refine Rr.wr_y (by simp only [List.getElem?_toArray, List.getElem?_cons_succ, List.getElem?_cons_zero]; rfl) (by rfl) ?_
         apply Exists.intro
         refine ⟨fun wz hw _ => ?_, ?_⟩
         · have hcz := hw.cells.1
           go_simp
           (with_reducible exact Rg.up_value)
         simp only [Act.put, List.setIfInBounds_toArray, List.set_cons_zero, List.set_cons_succ])
        (refine Rr.wr_y (by simp only [List.getElem?_toArray, List.getElem?_cons_succ, List.getElem?_cons_zero]; rfl) (by rfl) ?_
         apply Exists.intro
         refine ⟨fun wz hw _ => ?_, ?_⟩
         · have hcz := hw.cells.1
           go_simp
           (with_reducible exact Rg.up_value)
         simp only [Act.put, List.setIfInBounds_toArray, List.set_cons_zero, List.set_cons_succ])
        (refine Rr.wr_y (by simp only [List.getElem?_toArray, List.getElem?_cons_succ, List.getElem?_cons_zero]; rfl) (by rfl) ?_
         apply Exists.intro
         refine ⟨fun wz hw _ => ?_, ?_⟩
         · have hcz := hw.cells.1
           go_simp
           (with_reducible exact Rg.up_value)
         simp only [Act.put, List.setIfInBounds_toArray, List.set_cons_zero, List.set_cons_succ])
        (refine Rr.wr_y (by simp only [List.getElem?_toArray, List.getElem?_cons_succ, List.getElem?_cons_zero]; rfl) (by rfl) ?_
         apply Exists.intro
         refine ⟨fun wz hw _ => ?_, ?_⟩
         · have hcz := hw.cells.1
           go_simp
           (with_reducible exact Rg.up_value)
         simp only [Act.put, List.setIfInBounds_toArray, List.set_cons_zero, List.set_cons_succ])
        (refine Rr.wr_y (by simp only [List.getElem?_toArray, List.getElem?_cons_succ, List.getElem?_cons_zero]; rfl) (by rfl) ?_
         apply Exists.intro
         refine ⟨fun wz hw _ => ?_, ?_⟩
         · have hcz := hw.cells.1
           go_simp
           (with_reducible exact Rg.up_value)
         simp only [Act.put, List.setIfInBounds_toArray, List.set_cons_zero, List.set_cons_succ])
        (refine Rr.wr_y (by simp only [List.getElem?_toArray, List.getElem?_cons_succ, List.getElem?_cons_zero]; rfl) (by rfl) ?_
         apply Exists.intro
         refine ⟨fun wz hw _ => ?_, ?_⟩
         · have hcz := hw.cells.1
           go_simp
           (with_reducible exact Rg.up_value)
         simp only [Act.put, List.setIfInBounds_toArray, List.set_cons_zero, List.set_cons_succ])
        (refine Rr.wr_y (by simp only [List.getElem?_toArray, List.getElem?_cons_succ, List.getElem?_cons_zero]; rfl) (by rfl) ?_
         apply Exists.intro
         refine ⟨fun wz hw _ => ?_, ?_⟩
         · have hcz := hw.cells.1
           go_simp
           (with_reducible exact Rg.up_value)
         simp only [Act.put, List.setIfInBounds_toArray, List.set_cons_zero, List.set_cons_succ])
        (refine Rr.wr_y (by simp only [List.getElem?_toArray, List.getElem?_cons_succ, List.getElem?_cons_zero]; rfl) (by rfl) ?_
         apply Exists.intro
         refine ⟨fun wz hw _ => ?_, ?_⟩
         · have hcz := hw.cells.1
           go_simp
           (with_reducible exact Rg.up_value)
         simp only [Act.put, List.setIfInBounds_toArray, List.set_cons_zero, List.set_cons_succ])
        (refine Rr.wr_y (by simp only [List.getElem?_toArray, List.getElem?_cons_succ, List.getElem?_cons_zero]; rfl) (by rfl) ?_
         apply Exists.intro
         refine ⟨fun wz hw _ => ?_, ?_⟩
         · have hcz := hw.cells.1
           go_simp
           (with_reducible exact Rg.up_value)
         simp only [Act.put, List.setIfInBounds_toArray, List.set_cons_zero, List.set_cons_succ])
        (refine Rr.wr_y (by simp only [List.getElem?_toArray, List.getElem?_cons_succ, List.getElem?_cons_zero]; rfl) (by rfl) ?_
         apply Exists.intro
         refine ⟨fun wz hw _ => ?_, ?_⟩
         · have hcz := hw.cells.1
           go_simp
           (with_reducible exact Rg.up_value)
         simp only [Act.put, List.setIfInBounds_toArray, List.set_cons_zero, List.set_cons_succ])
        (refine Rr.wr_y (by simp only [List.getElem?_toArray, List.getElem?_cons_succ, List.getElem?_cons_zero]; rfl) (by rfl) ?_
         apply Exists.intro
         refine ⟨fun wz hw _ => ?_, ?_⟩
         · have hcz := hw.cells.1
           go_simp
           (with_reducible exact Rg.up_value)
         simp only [Act.put, List.setIfInBounds_toArray, List.set_cons_zero, List.set_cons_succ])
        (refine Rr.wr_y (by simp only [List.getElem?_toArray, List.getElem?_cons_succ, List.getElem?_cons_zero]; rfl) (by rfl) ?_
         apply Exists.intro
         refine ⟨fun wz hw _ => ?_, ?_⟩
         · have hcz := hw.cells.1
           go_simp
           apply Rg.up_enter
           (with_reducible refine (H17.out _).mono ?_)
           rintro e w3 ⟨rfl, hb3⟩
           exact ⟨rfl, hb3⟩
         simp only [Act.put, List.setIfInBounds_toArray, List.set_cons_zero, List.set_cons_succ])
        (refine Rr.wr_y (by simp only [List.getElem?_toArray, List.getElem?_cons_succ, List.getElem?_cons_zero]; rfl) (by rfl) ?_
         apply Exists.intro
         refine ⟨fun wz hw _ => ?_, ?_⟩
         · have hcz := hw.cells.1
           go_simp
           (with_reducible exact Rg.up_value)
         simp only [Act.put, List.setIfInBounds_toArray, List.set_cons_zero, List.set_cons_succ])
        (refine Rr.wr_y (by simp only [List.getElem?_toArray, List.getElem?_cons_succ, List.getElem?_cons_zero]; rfl) (by rfl) ?_
         apply Exists.intro
         refine ⟨fun wz hw _ => ?_, ?_⟩
         · have hcz := hw.cells.1
           go_simp
           apply Rg.up_enter
           (with_reducible refine (H19.out _).mono ?_)
           rintro e w3 ⟨rfl, hb3⟩
           exact ⟨rfl, hb3⟩
         simp only [Act.put, List.setIfInBounds_toArray, List.set_cons_zero, List.set_cons_succ])
        (refine Rr.wr_y (by simp only [List.getElem?_toArray, List.getElem?_cons_succ, List.getElem?_cons_zero]; rfl) (by rfl) ?_
         apply Exists.intro
         refine ⟨fun wz hw _ => ?_, ?_⟩
         · have hcz := hw.cells.1
           go_simp
           (with_reducible exact Rg.up_value)
         simp only [Act.put, List.setIfInBounds_toArray, List.set_cons_zero, List.set_cons_succ])
        (refine Rr.wr_y (by simp only [List.getElem?_toArray, List.getElem?_cons_succ, List.getElem?_cons_zero]; rfl) (by rfl) ?_
         apply Exists.intro
         refine ⟨fun wz hw _ => ?_, ?_⟩
         · have hcz := hw.cells.1
           go_simp
           (with_reducible exact Rg.up_value)
         simp only [Act.put, List.setIfInBounds_toArray, List.set_cons_zero, List.set_cons_succ])
        (refine Rr.wr_y (by simp only [List.getElem?_toArray, List.getElem?_cons_succ, List.getElem?_cons_zero]; rfl) (by rfl) ?_
         apply Exists.intro
         refine ⟨fun wz hw _ => ?_, ?_⟩
         · have hcz := hw.cells.1
           go_simp
           (with_reducible exact Rg.up_value)
         simp only [Act.put, List.setIfInBounds_toArray, List.set_cons_zero, List.set_cons_succ])
        (refine Rr.wr_y (by simp only [List.getElem?_toArray, List.getElem?_cons_succ, List.getElem?_cons_zero]; rfl) (by rfl) ?_
         apply Exists.intro
         refine ⟨fun wz hw _ => ?_, ?_⟩
         · have hcz := hw.cells.1
           go_simp
           (with_reducible exact Rg.up_value)
         simp only [Act.put, List.setIfInBounds_toArray, List.set_cons_zero, List.set_cons_succ])
        (refine Rr.wr_y (by simp only [List.getElem?_toArray, List.getElem?_cons_succ, List.getElem?_cons_zero]; rfl) (by rfl) ?_
         apply Exists.intro
         refine ⟨fun wz hw _ => ?_, ?_⟩
         · have hcz := hw.cells.1
           go_simp
           (with_reducible exact Rg.up_value)
         simp only [Act.put, List.setIfInBounds_toArray, List.set_cons_zero, List.set_cons_succ])
        (refine Rr.wr_y (by simp only [List.getElem?_toArray, List.getElem?_cons_succ, List.getElem?_cons_zero]; rfl) (by rfl) ?_
         apply Exists.intro
         refine ⟨fun wz hw _ => ?_, ?_⟩
         · have hcz := hw.cells.1
           go_simp
           (with_reducible exact Rg.up_value)
         simp only [Act.put, List.setIfInBounds_toArray, List.set_cons_zero, List.set_cons_succ])
        refine Rr.wr_nil ?_
        intro wy hy hh
        simp only [List.length_cons, List.length_nil, List.drop_succ_cons, List.drop_zero, Nat.reduceAdd]
        clear hh
        have dr' : wy.cell? ⟨q + 1, i, none⟩ = some z := (hy.cells.1 _ _ hp1).trans cr
        have df' : wy.frozen? ⟨q + 1, i, none⟩ = false := (hy.cells.2 _ _ hp1).trans fr
        go_wp2_with (fail)
        rw [← HN.out]
        have HR2 := heap_setCell_row (w := wy) (o := i) (.int .u32 x) ((hy.block _ (Rg.lt_of_heap HR1.out)).trans HR1.out)
        have e1 : (rowW l).setIfInBounds i (.int .u32 x) = rowW (l ++ [x]) := by
          have := rowW_set x (l := l) (by rw [HS.out]; exact hi64)
          rwa [HS.out] at this
        rw [e1] at HR2
        exact ⟨⟨i + 1, by simp, by omega, Lib.hid (by rw [HY.out]; exact HR2), Lib.hid ((HBT.out.trans (Bt.of_ext hy)).setCell _)⟩, by simp [iof]; omega⟩
    · obtain rfl : i = 64 := by omega
      have hs0 := HBT.out.size
      have hql := Rg.lt_of_heap HK.out
      have gS : Hid (wr.heap[p]? = some (.cells (rowN s.l) 90)) := Lib.hid ((HBT.out.block p (by omega) (by omega)).trans HS.out)
      have gR : Hid (wr.heap[p + 1]? = some (.cells (rowN [0, 0, 0, 0, 0, 0, 0, 0]) 90)) := Lib.hid ((HBT.out.block (p + 1) (by omega) (by omega)).trans HR.out)
      have gK : Hid (wr.heap[q]? = some (.cells (rowN K64) 109)) := Lib.hid ((HBT.out.block q (by omega) (by omega)).trans HK.out)
      have gX : Hid (Ext w wr) := Lib.hid (Bt.ext HX.out HBT.out (by have := HP.out; omega))
      clear HX HK HWW HS HR HBT
      have hrq : q + 1 < wr.heap.size := Rg.lt_of_heap HR1.out
      have s0 := cell_of_row wr p 0 _ _ _ gS.out; have s1 := cell_of_row wr p 1 _ _ _ gS.out; have s2 := cell_of_row wr p 2 _ _ _ gS.out; have s3 := cell_of_row wr p 3 _ _ _ gS.out
      have s4 := cell_of_row wr p 4 _ _ _ gS.out; have s5 := cell_of_row wr p 5 _ _ _ gS.out; have s6 := cell_of_row wr p 6 _ _ _ gS.out; have s7 := cell_of_row wr p 7 _ _ _ gS.out
      simp only [rowN, S8.l, List.map_cons, List.map_nil, List.getElem?_toArray, List.getElem?_cons_zero, List.getElem?_cons_succ] at s0 s1 s2 s3 s4 s5 s6 s7
      go_upto_region 12 with (first
        | (refine wpList_store_row (hgd := rfl) 90 (.tmp 10) (.tmp 92) rfl wr.heap.size (by rfl) (rowN s.l) (by rfl) (rowN [0, 0, 0, 0, 0, 0, 0, 0]) 90 (alloc_at wr _) (by rfl) (by kernel_rfl) (rowN_one _) ?_))
      clear s0 s1 s2 s3 s4 s5 s6 s7
      change Code.wp _ _ _ _ ((wr.alloc (.cells (rowN [0, 0, 0, 0, 0, 0, 0, 0]) 90)).setRow wr.heap.size (rowN s.l))
      obtain ⟨r, hr⟩ : ∃ r, r = wr.heap.size := ⟨_, rfl⟩
      have hx6 : Ext wr ((wr.alloc (.cells (rowN [0, 0, 0, 0, 0, 0, 0, 0]) 90)).setRow r (rowN s.l)) := below_setRow (Ext.alloc (Ext.refl _) _) (by omega) _
      have g6 : ((wr.alloc (.cells (rowN [0, 0, 0, 0, 0, 0, 0, 0]) 90)).setRow r (rowN s.l)).heap[r]? = some (.cells (rowN s.l) 90) := by
        rw [hr]
        exact setRow_heap _ _ _ _ _ _ (alloc_at wr _)
      rw [← hr] at hrq ⊢
      have jW := (hx6.block _ (Rg.lt_of_heap HR1.out)).trans HR1.out
      have jS := (hx6.block _ (Rg.lt_of_heap gS.out)).trans gS.out
      have jR := (hx6.block _ (Rg.lt_of_heap gR.out)).trans gR.out
      have jK := (hx6.block _ (Rg.lt_of_heap gK.out)).trans gK.out
      have jX := gX.out.trans hx6
      generalize ((wr.alloc (.cells (rowN [0, 0, 0, 0, 0, 0, 0, 0]) 90)).setRow r (rowN s.l)) = W6 at *
      have JV := Lib.hid g6; have JW := Lib.hid jW; have JS := Lib.hid jS; have JR := Lib.hid jR; have JK := Lib.hid jK; have JX := Lib.hid jX
      clear g6 jW jS jR jK jX hx6 hr gS gR gK gX HR1
      have hwr : w.heap.size ≤ r := by have := HP.out; omega
      go_wp2_with (fail)
      go_loopw [11] (fun k wv => ∃ (i : Nat) (t : S8), k = .int .i64 i ∧ i ≤ 64 ∧ Hid (t = rnds (sched (bytesI b) 64) s i) ∧ Hid (wv.heap[r]? = some (.cells (rowN t.l) 90)) ∧ Hid (Bt r W6 wv)) (fun k _ => 64 - (iof k).toNat)
      case atStart => exact ⟨0, s, rfl, by omega, Lib.hid rfl, JV, Lib.hid (Bt.of_ext (Ext.refl _))⟩
      case round =>
        obtain ⟨i, t, rfl, hi, HT, HV, HB⟩ := hrel
        by_cases hi64 : i < 64
        · have hsw : W6.heap.size ≤ wr.heap.size := HB.out.size
          have gw := (HB.out.block _ (Rg.lt_of_heap JW.out) (by omega)).trans JW.out
          have gk := (HB.out.block _ (Rg.lt_of_heap JK.out) (by omega)).trans JK.out
          have cw : wr.cell? ⟨q + 1, i, none⟩ = some (.int .u32 ((sched (bytesI b) 64).getD i 0)) := by
            rw [cell_of_row _ _ _ _ _ _ gw, rowW_get (by rw [sched_len]; exact hi64)]
          have ck : wr.cell? ⟨q, i, none⟩ = some (.int .u32 (K64.getD i 0)) := by
            rw [cell_of_row _ _ _ _ _ _ gk, rowN_get (by exact hi64)]
          have l1 := Rg.lt_of_heap gw; have l2 := Rg.lt_of_heap gk; have l3 := Rg.lt_of_heap HV.out
          have HN : Hid (rnds (sched (bytesI b) 64) s (i + 1) = rndS t (K64.getD i 0) ((sched (bytesI b) 64).getD i 0)) := Lib.hid (by rw [HT.out]; rfl)
          generalize K64.getD i 0 = kk at *
          generalize (sched (bytesI b) 64).getD i 0 = ww at *
          obtain ⟨ta, tb, tc, td, te, tf, tg, th⟩ := t
          have v0 := cell_of_row wr r 0 _ _ _ HV.out; have v1 := cell_of_row wr r 1 _ _ _ HV.out; have v2 := cell_of_row wr r 2 _ _ _ HV.out; have v3 := cell_of_row wr r 3 _ _ _ HV.out
          have v4 := cell_of_row wr r 4 _ _ _ HV.out; have v5 := cell_of_row wr r 5 _ _ _ HV.out; have v6 := cell_of_row wr r 6 _ _ _ HV.out; have v7 := cell_of_row wr r 7 _ _ _ HV.out
          simp only [rowN, S8.l, List.map_cons, List.map_nil, List.getElem?_toArray, List.getElem?_cons_zero, List.getElem?_cons_succ] at v0 v1 v2 v3 v4 v5 v6 v7
          have M6 := Lib.hid (rot_6 te); have M11 := Lib.hid (rot_11 te); have M25 := Lib.hid (rot_25 te); have M2 := Lib.hid (rot_2 ta); have M13 := Lib.hid (rot_13 ta); have M22 := Lib.hid (rot_22 ta)
          unfold rndS rndT rndU chS majS mix3 and32 xor32 not32 at HN
          simp only at HN
          generalize rotr te 6 = r6 at *; generalize rotr te 11 = r11 at *; generalize rotr te 25 = r25 at *; generalize rotr ta 2 = r2 at *; generalize rotr ta 13 = r13 at *; generalize rotr ta 22 = r22 at *
          clear gw gk
          go_upto_region 17 with (fail)
          refine Rr.wp_region ((List.range 30).map (fun i => (i, .y))) (fun _ => (.cells #[] 29, Rg.ptr)) (by kernel_rfl) (by kernel_rfl) ?_
          simp only [List.range, List.range.loop, List.map_cons, List.map_nil]
          (refine Rr.wr_y (by simp only [List.getElem?_toArray, List.getElem?_cons_succ, List.getElem?_cons_zero]; rfl) (by rfl) ?_
           apply Exists.intro
           refine ⟨fun wz hw _ => ?_, ?_⟩
           · have hcz := hw.cells.1
             go_simp
             (with_reducible exact Rg.up_value)
           simp only [Act.put, List.setIfInBounds_toArray, List.set_cons_zero, List.set_cons_succ])
          (refine Rr.wr_y (by simp only [List.getElem?_toArray, List.getElem?_cons_succ, List.getElem?_cons_zero]; rfl) (by rfl) ?_
           apply Exists.intro
           refine ⟨fun wz hw _ => ?_, ?_⟩
           · have hcz := hw.cells.1
             go_simp
             (with_reducible exact Rg.up_value)
           simp only [Act.put, List.setIfInBounds_toArray, List.set_cons_zero, List.set_cons_succ])
          (refine Rr.wr_y (by simp only [List.getElem?_toArray, List.getElem?_cons_succ, List.getElem?_cons_zero]; rfl) (by rfl) ?_
           apply Exists.intro
           refine ⟨fun wz hw _ => ?_, ?_⟩
           · have hcz := hw.cells.1
             go_simp
             (with_reducible exact Rg.up_value)
           simp only [Act.put, List.setIfInBounds_toArray, List.set_cons_zero, List.set_cons_succ])
          (refine Rr.wr_y (by simp only [List.getElem?_toArray, List.getElem?_cons_succ, List.getElem?_cons_zero]; rfl) (by rfl) ?_
           apply Exists.intro
           refine ⟨fun wz hw _ => ?_, ?_⟩
           · have hcz := hw.cells.1
             go_simp
             apply Rg.up_enter
             (with_reducible refine (M6.out _).mono ?_)
             rintro e w3 ⟨rfl, hb3⟩
             exact ⟨rfl, hb3⟩
           simp only [Act.put, List.setIfInBounds_toArray, List.set_cons_zero, List.set_cons_succ])
          (refine Rr.wr_y (by simp only [List.getElem?_toArray, List.getElem?_cons_succ, List.getElem?_cons_zero]; rfl) (by rfl) ?_
           apply Exists.intro
           refine ⟨fun wz hw _ => ?_, ?_⟩
           · have hcz := hw.cells.1
             go_simp
             (with_reducible exact Rg.up_value)
           simp only [Act.put, List.setIfInBounds_toArray, List.set_cons_zero, List.set_cons_succ])
          (refine Rr.wr_y (by simp only [List.getElem?_toArray, List.getElem?_cons_succ, List.getElem?_cons_zero]; rfl) (by rfl) ?_
           apply Exists.intro
           refine ⟨fun wz hw _ => ?_, ?_⟩
           · have hcz := hw.cells.1
             go_simp
             apply Rg.up_enter
             (with_reducible refine (M11.out _).mono ?_)
             rintro e w3 ⟨rfl, hb3⟩
             exact ⟨rfl, hb3⟩
           simp only [Act.put, List.setIfInBounds_toArray, List.set_cons_zero, List.set_cons_succ])
          (refine Rr.wr_y (by simp only [List.getElem?_toArray, List.getElem?_cons_succ, List.getElem?_cons_zero]; rfl) (by rfl) ?_
           apply Exists.intro
           refine ⟨fun wz hw _ => ?_, ?_⟩
           · have hcz := hw.cells.1
             go_simp
             (with_reducible exact Rg.up_value)
           simp only [Act.put, List.setIfInBounds_toArray, List.set_cons_zero, List.set_cons_succ])
          (refine Rr.wr_y (by simp only [List.getElem?_toArray, List.getElem?_cons_succ, List.getElem?_cons_zero]; rfl) (by rfl) ?_
           apply Exists.intro
           refine ⟨fun wz hw _ => ?_, ?_⟩
           · have hcz := hw.cells.1
             go_simp
             (with_reducible exact Rg.up_value)
           simp only [Act.put, List.setIfInBounds_toArray, List.set_cons_zero, List.set_cons_succ])
          (refine Rr.wr_y (by simp only [List.getElem?_toArray, List.getElem?_cons_succ, List.getElem?_cons_zero]; rfl) (by rfl) ?_
           apply Exists.intro
           refine ⟨fun wz hw _ => ?_, ?_⟩
           · have hcz := hw.cells.1
             go_simp
             apply Rg.up_enter
             (with_reducible refine (M25.out _).mono ?_)
             rintro e w3 ⟨rfl, hb3⟩
             exact ⟨rfl, hb3⟩
           simp only [Act.put, List.setIfInBounds_toArray, List.set_cons_zero, List.set_cons_succ])
          (refine Rr.wr_y (by simp only [List.getElem?_toArray, List.getElem?_cons_succ, List.getElem?_cons_zero]; rfl) (by rfl) ?_
           apply Exists.intro
           refine ⟨fun wz hw _ => ?_, ?_⟩
           · have hcz := hw.cells.1
             go_simp
             (with_reducible exact Rg.up_value)
           simp only [Act.put, List.setIfInBounds_toArray, List.set_cons_zero, List.set_cons_succ])
          (refine Rr.wr_y (by simp only [List.getElem?_toArray, List.getElem?_cons_succ, List.getElem?_cons_zero]; rfl) (by rfl) ?_
           apply Exists.intro
           refine ⟨fun wz hw _ => ?_, ?_⟩
           · have hcz := hw.cells.1
             go_simp
             (with_reducible exact Rg.up_value)
           simp only [Act.put, List.setIfInBounds_toArray, List.set_cons_zero, List.set_cons_succ])
          (refine Rr.wr_y (by simp only [List.getElem?_toArray, List.getElem?_cons_succ, List.getElem?_cons_zero]; rfl) (by rfl) ?_
           apply Exists.intro
           refine ⟨fun wz hw _ => ?_, ?_⟩
           · have hcz := hw.cells.1
             go_simp
             (with_reducible exact Rg.up_value)
           simp only [Act.put, List.setIfInBounds_toArray, List.set_cons_zero, List.set_cons_succ])
          (refine Rr.wr_y (by simp only [List.getElem?_toArray, List.getElem?_cons_succ, List.getElem?_cons_zero]; rfl) (by rfl) ?_
           apply Exists.intro
           refine ⟨fun wz hw _ => ?_, ?_⟩
           · have hcz := hw.cells.1
             go_simp
             (with_reducible exact Rg.up_value)
           simp only [Act.put, List.setIfInBounds_toArray, List.set_cons_zero, List.set_cons_succ])
          (refine Rr.wr_y (by simp only [List.getElem?_toArray, List.getElem?_cons_succ, List.getElem?_cons_zero]; rfl) (by rfl) ?_
           apply Exists.intro
           refine ⟨fun wz hw _ => ?_, ?_⟩
           · have hcz := hw.cells.1
             go_simp
             (with_reducible exact Rg.up_value)
           simp only [Act.put, List.setIfInBounds_toArray, List.set_cons_zero, List.set_cons_succ])
          (refine Rr.wr_y (by simp only [List.getElem?_toArray, List.getElem?_cons_succ, List.getElem?_cons_zero]; rfl) (by rfl) ?_
           apply Exists.intro
           refine ⟨fun wz hw _ => ?_, ?_⟩
           · have hcz := hw.cells.1
             go_simp
             (with_reducible exact Rg.up_value)
           simp only [Act.put, List.setIfInBounds_toArray, List.set_cons_zero, List.set_cons_succ])
          (refine Rr.wr_y (by simp only [List.getElem?_toArray, List.getElem?_cons_succ, List.getElem?_cons_zero]; rfl) (by rfl) ?_
           apply Exists.intro
           refine ⟨fun wz hw _ => ?_, ?_⟩
           · have hcz := hw.cells.1
             go_simp
             (with_reducible exact Rg.up_value)
           simp only [Act.put, List.setIfInBounds_toArray, List.set_cons_zero, List.set_cons_succ])
          (refine Rr.wr_y (by simp only [List.getElem?_toArray, List.getElem?_cons_succ, List.getElem?_cons_zero]; rfl) (by rfl) ?_
           apply Exists.intro
           refine ⟨fun wz hw _ => ?_, ?_⟩
           · have hcz := hw.cells.1
             go_simp
             (with_reducible exact Rg.up_value)
           simp only [Act.put, List.setIfInBounds_toArray, List.set_cons_zero, List.set_cons_succ])
          (refine Rr.wr_y (by simp only [List.getElem?_toArray, List.getElem?_cons_succ, List.getElem?_cons_zero]; rfl) (by rfl) ?_
           apply Exists.intro
           refine ⟨fun wz hw _ => ?_, ?_⟩
           · have hcz := hw.cells.1
             go_simp
             (with_reducible exact Rg.up_value)
           simp only [Act.put, List.setIfInBounds_toArray, List.set_cons_zero, List.set_cons_succ])
          (refine Rr.wr_y (by simp only [List.getElem?_toArray, List.getElem?_cons_succ, List.getElem?_cons_zero]; rfl) (by rfl) ?_
           apply Exists.intro
           refine ⟨fun wz hw _ => ?_, ?_⟩
           · have hcz := hw.cells.1
             go_simp
             (with_reducible exact Rg.up_value)
           simp only [Act.put, List.setIfInBounds_toArray, List.set_cons_zero, List.set_cons_succ])
          (refine Rr.wr_y (by simp only [List.getElem?_toArray, List.getElem?_cons_succ, List.getElem?_cons_zero]; rfl) (by rfl) ?_
           apply Exists.intro
           refine ⟨fun wz hw _ => ?_, ?_⟩
           · have hcz := hw.cells.1
             go_simp
             (with_reducible exact Rg.up_value)
           simp only [Act.put, List.setIfInBounds_toArray, List.set_cons_zero, List.set_cons_succ])
          (refine Rr.wr_y (by simp only [List.getElem?_toArray, List.getElem?_cons_succ, List.getElem?_cons_zero]; rfl) (by rfl) ?_
           apply Exists.intro
           refine ⟨fun wz hw _ => ?_, ?_⟩
           · have hcz := hw.cells.1
             go_simp
             (with_reducible exact Rg.up_value)
           simp only [Act.put, List.setIfInBounds_toArray, List.set_cons_zero, List.set_cons_succ])
          (refine Rr.wr_y (by simp only [List.getElem?_toArray, List.getElem?_cons_succ, List.getElem?_cons_zero]; rfl) (by rfl) ?_
           apply Exists.intro
           refine ⟨fun wz hw _ => ?_, ?_⟩
           · have hcz := hw.cells.1
             go_simp
             (with_reducible exact Rg.up_value)
           simp only [Act.put, List.setIfInBounds_toArray, List.set_cons_zero, List.set_cons_succ])
          (refine Rr.wr_y (by simp only [List.getElem?_toArray, List.getElem?_cons_succ, List.getElem?_cons_zero]; rfl) (by rfl) ?_
           apply Exists.intro
           refine ⟨fun wz hw _ => ?_, ?_⟩
           · have hcz := hw.cells.1
             go_simp
             (with_reducible exact Rg.up_value)
           simp only [Act.put, List.setIfInBounds_toArray, List.set_cons_zero, List.set_cons_succ])
          (refine Rr.wr_y (by simp only [List.getElem?_toArray, List.getElem?_cons_succ, List.getElem?_cons_zero]; rfl) (by rfl) ?_
           apply Exists.intro
           refine ⟨fun wz hw _ => ?_, ?_⟩
           · have hcz := hw.cells.1
             go_simp
             (with_reducible exact Rg.up_value)
           simp only [Act.put, List.setIfInBounds_toArray, List.set_cons_zero, List.set_cons_succ])
          (refine Rr.wr_y (by simp only [List.getElem?_toArray, List.getElem?_cons_succ, List.getElem?_cons_zero]; rfl) (by rfl) ?_
           apply Exists.intro
           refine ⟨fun wz hw _ => ?_, ?_⟩
           · have hcz := hw.cells.1
             go_simp
             (with_reducible exact Rg.up_value)
           simp only [Act.put, List.setIfInBounds_toArray, List.set_cons_zero, List.set_cons_succ])
          (refine Rr.wr_y (by simp only [List.getElem?_toArray, List.getElem?_cons_succ, List.getElem?_cons_zero]; rfl) (by rfl) ?_
           apply Exists.intro
           refine ⟨fun wz hw _ => ?_, ?_⟩
           · have hcz := hw.cells.1
             go_simp
             (with_reducible exact Rg.up_value)
           simp only [Act.put, List.setIfInBounds_toArray, List.set_cons_zero, List.set_cons_succ])
          (refine Rr.wr_y (by simp only [List.getElem?_toArray, List.getElem?_cons_succ, List.getElem?_cons_zero]; rfl) (by rfl) ?_
           apply Exists.intro
           refine ⟨fun wz hw _ => ?_, ?_⟩
           · have hcz := hw.cells.1
             go_simp
             (with_reducible exact Rg.up_value)
           simp only [Act.put, List.setIfInBounds_toArray, List.set_cons_zero, List.set_cons_succ])
          (refine Rr.wr_y (by simp only [List.getElem?_toArray, List.getElem?_cons_succ, List.getElem?_cons_zero]; rfl) (by rfl) ?_
           apply Exists.intro
           refine ⟨fun wz hw _ => ?_, ?_⟩
           · have hcz := hw.cells.1
             go_simp
             (with_reducible exact Rg.up_value)
           simp only [Act.put, List.setIfInBounds_toArray, List.set_cons_zero, List.set_cons_succ])
          (refine Rr.wr_y (by simp only [List.getElem?_toArray, List.getElem?_cons_succ, List.getElem?_cons_zero]; rfl) (by rfl) ?_
           apply Exists.intro
           refine ⟨fun wz hw _ => ?_, ?_⟩
           · have hcz := hw.cells.1
             go_simp
             (with_reducible exact Rg.up_value)
           simp only [Act.put, List.setIfInBounds_toArray, List.set_cons_zero, List.set_cons_succ])
          (refine Rr.wr_y (by simp only [List.getElem?_toArray, List.getElem?_cons_succ, List.getElem?_cons_zero]; rfl) (by rfl) ?_
           apply Exists.intro
           refine ⟨fun wz hw _ => ?_, ?_⟩
           · have hcz := hw.cells.1
             go_simp
             (with_reducible exact Rg.up_value)
           simp only [Act.put, List.setIfInBounds_toArray, List.set_cons_zero, List.set_cons_succ])
          refine Rr.wr_nil ?_
          intro wy hy hh
          simp only [List.length_cons, List.length_nil, List.drop_succ_cons, List.drop_zero, Nat.reduceAdd]
          clear hh
          have b0 := (hy.cells.1 _ _ l3).trans v0; have b1 := (hy.cells.1 _ _ l3).trans v1; have b2 := (hy.cells.1 _ _ l3).trans v2; have b3 := (hy.cells.1 _ _ l3).trans v3
          have b4 := (hy.cells.1 _ _ l3).trans v4; have b5 := (hy.cells.1 _ _ l3).trans v5; have b6 := (hy.cells.1 _ _ l3).trans v6; have b7 := (hy.cells.1 _ _ l3).trans v7
          have l4 := Nat.lt_of_lt_of_le l3 hy.size
          clear v0 v1 v2 v3 v4 v5 v6 v7 cw ck l1 l2
          go_upto_region 18 with (fail)
          generalize hT : (IntKind.u32.wrap
              (IntKind.u32.wrap
                  (IntKind.u32.wrap
                      (IntKind.u32.wrap (th + bits BinOp.xor IntKind.u32 (bits BinOp.xor IntKind.u32 r6 r11) r25) +
                        bits BinOp.xor IntKind.u32 (bits BinOp.and IntKind.u32 te tf)
                          (bits BinOp.and IntKind.u32
                            (bits BinOp.xor IntKind.u32 (if IntKind.u32.signed = true then -1 else IntKind.u32.max) te)
                            tg)) +
                    kk) +
                ww)) = T
          have HTT : Hid (T = (((th + bits BinOp.xor IntKind.u32 (bits BinOp.xor IntKind.u32 r6 r11) r25 +
                        bits BinOp.xor IntKind.u32 (bits BinOp.and IntKind.u32 te tf)
                          (bits BinOp.and IntKind.u32
                            (bits BinOp.xor IntKind.u32 (if IntKind.u32.signed = true then -1 else IntKind.u32.max) te)
                            tg) +
                      kk) %
                    4294967296 +
                  ww) %
                4294967296)) := Lib.hid (by
            rw [← hT]
            generalize (bits BinOp.xor IntKind.u32 (bits BinOp.and IntKind.u32 te tf)
                          (bits BinOp.and IntKind.u32
                            (bits BinOp.xor IntKind.u32 (if IntKind.u32.signed = true then -1 else IntKind.u32.max) te)
                            tg)) = c1
            generalize bits BinOp.xor IntKind.u32 (bits BinOp.xor IntKind.u32 r6 r11) r25 = c2
            simp only [IntKind.wrap_u32, Int.emod_add_emod])
          clear hT
          rw [← HTT.out] at HN
          refine Rr.wp_region ((List.range 24).map (fun i => (i, .y))) (fun _ => (.cells #[] 29, Rg.ptr)) (by kernel_rfl) (by kernel_rfl) ?_
          simp only [List.range, List.range.loop, List.map_cons, List.map_nil]
          (refine Rr.wr_y (by simp only [List.getElem?_toArray, List.getElem?_cons_succ, List.getElem?_cons_zero]; rfl) (by rfl) ?_
           apply Exists.intro
           refine ⟨fun wz hw _ => ?_, ?_⟩
           · have hcz := hw.cells.1
             go_simp
             (with_reducible exact Rg.up_value)
           simp only [Act.put, List.setIfInBounds_toArray, List.set_cons_zero, List.set_cons_succ])
          (refine Rr.wr_y (by simp only [List.getElem?_toArray, List.getElem?_cons_succ, List.getElem?_cons_zero]; rfl) (by rfl) ?_
           apply Exists.intro
           refine ⟨fun wz hw _ => ?_, ?_⟩
           · have hcz := hw.cells.1
             go_simp
             apply Rg.up_enter
             (with_reducible refine (M2.out _).mono ?_)
             rintro e w3 ⟨rfl, hb3⟩
             exact ⟨rfl, hb3⟩
           simp only [Act.put, List.setIfInBounds_toArray, List.set_cons_zero, List.set_cons_succ])
          (refine Rr.wr_y (by simp only [List.getElem?_toArray, List.getElem?_cons_succ, List.getElem?_cons_zero]; rfl) (by rfl) ?_
           apply Exists.intro
           refine ⟨fun wz hw _ => ?_, ?_⟩
           · have hcz := hw.cells.1
             go_simp
             (with_reducible exact Rg.up_value)
           simp only [Act.put, List.setIfInBounds_toArray, List.set_cons_zero, List.set_cons_succ])
          (refine Rr.wr_y (by simp only [List.getElem?_toArray, List.getElem?_cons_succ, List.getElem?_cons_zero]; rfl) (by rfl) ?_
           apply Exists.intro
           refine ⟨fun wz hw _ => ?_, ?_⟩
           · have hcz := hw.cells.1
             go_simp
             apply Rg.up_enter
             (with_reducible refine (M13.out _).mono ?_)
             rintro e w3 ⟨rfl, hb3⟩
             exact ⟨rfl, hb3⟩
           simp only [Act.put, List.setIfInBounds_toArray, List.set_cons_zero, List.set_cons_succ])
          (refine Rr.wr_y (by simp only [List.getElem?_toArray, List.getElem?_cons_succ, List.getElem?_cons_zero]; rfl) (by rfl) ?_
           apply Exists.intro
           refine ⟨fun wz hw _ => ?_, ?_⟩
           · have hcz := hw.cells.1
             go_simp
             (with_reducible exact Rg.up_value)
           simp only [Act.put, List.setIfInBounds_toArray, List.set_cons_zero, List.set_cons_succ])
          (refine Rr.wr_y (by simp only [List.getElem?_toArray, List.getElem?_cons_succ, List.getElem?_cons_zero]; rfl) (by rfl) ?_
           apply Exists.intro
           refine ⟨fun wz hw _ => ?_, ?_⟩
           · have hcz := hw.cells.1
             go_simp
             (with_reducible exact Rg.up_value)
           simp only [Act.put, List.setIfInBounds_toArray, List.set_cons_zero, List.set_cons_succ])
          (refine Rr.wr_y (by simp only [List.getElem?_toArray, List.getElem?_cons_succ, List.getElem?_cons_zero]; rfl) (by rfl) ?_
           apply Exists.intro
           refine ⟨fun wz hw _ => ?_, ?_⟩
           · have hcz := hw.cells.1
             go_simp
             apply Rg.up_enter
             (with_reducible refine (M22.out _).mono ?_)
             rintro e w3 ⟨rfl, hb3⟩
             exact ⟨rfl, hb3⟩
           simp only [Act.put, List.setIfInBounds_toArray, List.set_cons_zero, List.set_cons_succ])
          (refine Rr.wr_y (by simp only [List.getElem?_toArray, List.getElem?_cons_succ, List.getElem?_cons_zero]; rfl) (by rfl) ?_
           apply Exists.intro
           refine ⟨fun wz hw _ => ?_, ?_⟩
           · have hcz := hw.cells.1
             go_simp
             (with_reducible exact Rg.up_value)
           simp only [Act.put, List.setIfInBounds_toArray, List.set_cons_zero, List.set_cons_succ])
          (refine Rr.wr_y (by simp only [List.getElem?_toArray, List.getElem?_cons_succ, List.getElem?_cons_zero]; rfl) (by rfl) ?_
           apply Exists.intro
           refine ⟨fun wz hw _ => ?_, ?_⟩
           · have hcz := hw.cells.1
             go_simp
             (with_reducible exact Rg.up_value)
           simp only [Act.put, List.setIfInBounds_toArray, List.set_cons_zero, List.set_cons_succ])
          (refine Rr.wr_y (by simp only [List.getElem?_toArray, List.getElem?_cons_succ, List.getElem?_cons_zero]; rfl) (by rfl) ?_
           apply Exists.intro
           refine ⟨fun wz hw _ => ?_, ?_⟩
           · have hcz := hw.cells.1
             go_simp
             (with_reducible exact Rg.up_value)
           simp only [Act.put, List.setIfInBounds_toArray, List.set_cons_zero, List.set_cons_succ])
          (refine Rr.wr_y (by simp only [List.getElem?_toArray, List.getElem?_cons_succ, List.getElem?_cons_zero]; rfl) (by rfl) ?_
           apply Exists.intro
           refine ⟨fun wz hw _ => ?_, ?_⟩
           · have hcz := hw.cells.1
             go_simp
             (with_reducible exact Rg.up_value)
           simp only [Act.put, List.setIfInBounds_toArray, List.set_cons_zero, List.set_cons_succ])
          (refine Rr.wr_y (by simp only [List.getElem?_toArray, List.getElem?_cons_succ, List.getElem?_cons_zero]; rfl) (by rfl) ?_
           apply Exists.intro
           refine ⟨fun wz hw _ => ?_, ?_⟩
           · have hcz := hw.cells.1
             go_simp
             (with_reducible exact Rg.up_value)
           simp only [Act.put, List.setIfInBounds_toArray, List.set_cons_zero, List.set_cons_succ])
          (refine Rr.wr_y (by simp only [List.getElem?_toArray, List.getElem?_cons_succ, List.getElem?_cons_zero]; rfl) (by rfl) ?_
           apply Exists.intro
           refine ⟨fun wz hw _ => ?_, ?_⟩
           · have hcz := hw.cells.1
             go_simp
             (with_reducible exact Rg.up_value)
           simp only [Act.put, List.setIfInBounds_toArray, List.set_cons_zero, List.set_cons_succ])
          (refine Rr.wr_y (by simp only [List.getElem?_toArray, List.getElem?_cons_succ, List.getElem?_cons_zero]; rfl) (by rfl) ?_
           apply Exists.intro
           refine ⟨fun wz hw _ => ?_, ?_⟩
           · have hcz := hw.cells.1
             go_simp
             (with_reducible exact Rg.up_value)
           simp only [Act.put, List.setIfInBounds_toArray, List.set_cons_zero, List.set_cons_succ])
          (refine Rr.wr_y (by simp only [List.getElem?_toArray, List.getElem?_cons_succ, List.getElem?_cons_zero]; rfl) (by rfl) ?_
           apply Exists.intro
           refine ⟨fun wz hw _ => ?_, ?_⟩
           · have hcz := hw.cells.1
             go_simp
             (with_reducible exact Rg.up_value)
           simp only [Act.put, List.setIfInBounds_toArray, List.set_cons_zero, List.set_cons_succ])
          (refine Rr.wr_y (by simp only [List.getElem?_toArray, List.getElem?_cons_succ, List.getElem?_cons_zero]; rfl) (by rfl) ?_
           apply Exists.intro
           refine ⟨fun wz hw _ => ?_, ?_⟩
           · have hcz := hw.cells.1
             go_simp
             (with_reducible exact Rg.up_value)
           simp only [Act.put, List.setIfInBounds_toArray, List.set_cons_zero, List.set_cons_succ])
          (refine Rr.wr_y (by simp only [List.getElem?_toArray, List.getElem?_cons_succ, List.getElem?_cons_zero]; rfl) (by rfl) ?_
           apply Exists.intro
           refine ⟨fun wz hw _ => ?_, ?_⟩
           · have hcz := hw.cells.1
             go_simp
             (with_reducible exact Rg.up_value)
           simp only [Act.put, List.setIfInBounds_toArray, List.set_cons_zero, List.set_cons_succ])
          (refine Rr.wr_y (by simp only [List.getElem?_toArray, List.getElem?_cons_succ, List.getElem?_cons_zero]; rfl) (by rfl) ?_
           apply Exists.intro
           refine ⟨fun wz hw _ => ?_, ?_⟩
           · have hcz := hw.cells.1
             go_simp
             (with_reducible exact Rg.up_value)
           simp only [Act.put, List.setIfInBounds_toArray, List.set_cons_zero, List.set_cons_succ])
          (refine Rr.wr_y (by simp only [List.getElem?_toArray, List.getElem?_cons_succ, List.getElem?_cons_zero]; rfl) (by rfl) ?_
           apply Exists.intro
           refine ⟨fun wz hw _ => ?_, ?_⟩
           · have hcz := hw.cells.1
             go_simp
             (with_reducible exact Rg.up_value)
           simp only [Act.put, List.setIfInBounds_toArray, List.set_cons_zero, List.set_cons_succ])
          (refine Rr.wr_y (by simp only [List.getElem?_toArray, List.getElem?_cons_succ, List.getElem?_cons_zero]; rfl) (by rfl) ?_
           apply Exists.intro
           refine ⟨fun wz hw _ => ?_, ?_⟩
           · have hcz := hw.cells.1
             go_simp
             (with_reducible exact Rg.up_value)
           simp only [Act.put, List.setIfInBounds_toArray, List.set_cons_zero, List.set_cons_succ])
          (refine Rr.wr_y (by simp only [List.getElem?_toArray, List.getElem?_cons_succ, List.getElem?_cons_zero]; rfl) (by rfl) ?_
           apply Exists.intro
           refine ⟨fun wz hw _ => ?_, ?_⟩
           · have hcz := hw.cells.1
             go_simp
             (with_reducible exact Rg.up_value)
           simp only [Act.put, List.setIfInBounds_toArray, List.set_cons_zero, List.set_cons_succ])
          (refine Rr.wr_y (by simp only [List.getElem?_toArray, List.getElem?_cons_succ, List.getElem?_cons_zero]; rfl) (by rfl) ?_
           apply Exists.intro
           refine ⟨fun wz hw _ => ?_, ?_⟩
           · have hcz := hw.cells.1
             go_simp
             (with_reducible exact Rg.up_value)
           simp only [Act.put, List.setIfInBounds_toArray, List.set_cons_zero, List.set_cons_succ])
          (refine Rr.wr_y (by simp only [List.getElem?_toArray, List.getElem?_cons_succ, List.getElem?_cons_zero]; rfl) (by rfl) ?_
           apply Exists.intro
           refine ⟨fun wz hw _ => ?_, ?_⟩
           · have hcz := hw.cells.1
             go_simp
             (with_reducible exact Rg.up_value)
           simp only [Act.put, List.setIfInBounds_toArray, List.set_cons_zero, List.set_cons_succ])
          (refine Rr.wr_y (by simp only [List.getElem?_toArray, List.getElem?_cons_succ, List.getElem?_cons_zero]; rfl) (by rfl) ?_
           apply Exists.intro
           refine ⟨fun wz hw _ => ?_, ?_⟩
           · have hcz := hw.cells.1
             go_simp
             (with_reducible exact Rg.up_value)
           simp only [Act.put, List.setIfInBounds_toArray, List.set_cons_zero, List.set_cons_succ])
          refine Rr.wr_nil ?_
          intro wz hz hh
          simp only [List.length_cons, List.length_nil, List.drop_succ_cons, List.drop_zero, Nat.reduceAdd]
          clear hh
          have d0 := (hz.cells.1 _ _ l4).trans b0; have d1 := (hz.cells.1 _ _ l4).trans b1; have d2 := (hz.cells.1 _ _ l4).trans b2; have d3 := (hz.cells.1 _ _ l4).trans b3
          have d4 := (hz.cells.1 _ _ l4).trans b4; have d5 := (hz.cells.1 _ _ l4).trans b5; have d6 := (hz.cells.1 _ _ l4).trans b6; have d7 := (hz.cells.1 _ _ l4).trans b7
          clear b0 b1 b2 b3 b4 b5 b6 b7
          go_upto_region 19 with (fail)
          generalize hU : (IntKind.u32.wrap
              (bits BinOp.xor IntKind.u32 (bits BinOp.xor IntKind.u32 r2 r13) r22 +
                bits BinOp.xor IntKind.u32
                  (bits BinOp.xor IntKind.u32 (bits BinOp.and IntKind.u32 ta tb) (bits BinOp.and IntKind.u32 ta tc))
                  (bits BinOp.and IntKind.u32 tb tc))) = U
          rw [IntKind.wrap_u32] at hU
          rw [hU] at HN
          clear hU HTT
          have gV := (hz.block _ l4).trans ((hy.block _ l3).trans HV.out)
          have GB := Lib.hid (HB.out.trans (Bt.of_ext (hy.trans hz)))
          clear hy hz HV HB
          go_upto_region 14 with (first
            | (refine wpList_store_row (hgd := rfl) 90 (.tmp 10) (.tmp 174) rfl r (by rfl) (rowN [(T + U) % 4294967296, ta, tb, tc, (td + T) % 4294967296, te, tf, tg]) (by rfl) _ 90 gV (by rfl) (by kernel_rfl) (rowN_one _) ?_))
          go_wp2_with (fail)
          refine ⟨⟨i + 1, _, by simp, by omega, Lib.hid HN.out.symm, Lib.hid (setRow_heap _ _ _ _ _ _ gV), Lib.hid (Bt.setRow' GB.out _)⟩, by simp [iof]; omega⟩
        · obtain rfl : i = 64 := by omega
          have JB : Hid (blockS s (bytesI b) = sumS s t) := Lib.hid (by unfold blockS; rw [HT.out])
          have kS := (HB.out.block _ (Rg.lt_of_heap JS.out) (by omega)).trans JS.out
          have kR := (HB.out.block _ (Rg.lt_of_heap JR.out) (by omega)).trans JR.out
          have KX := Lib.hid (Bt.ext JX.out HB.out hwr)
          have KS := Lib.hid kS; have KR := Lib.hid kR
          clear kS kR HB JV JW JS JR JK JX
          have hpr : p < r := by omega
          go_wp2_with (fail)
          go_loopw [16] (fun k wv => ∃ j : Nat, k = .int .i64 j ∧ j ≤ 8 ∧ Hid (wv.heap[p]? = some (.cells (rowN (mixL s t j)) 90)) ∧ Hid (wv.heap[p + 1]? = some (.cells (rowN [0, 0, 0, 0, 0, 0, 0, 0]) 90)) ∧ Hid (wv.heap[r]? = some (.cells (rowN t.l) 90)) ∧ Hid (Ext w wv)) (fun k _ => 8 - (iof k).toNat)
          case atStart => exact ⟨0, rfl, by omega, KS, KR, HV, KX⟩
          case round =>
            obtain ⟨j, rfl, hj, LS, LR, LV, LX⟩ := hrel
            by_cases hj8 : j < 8
            · have cj : wr.cell? ⟨p, j, none⟩ = some (.int .u32 (s.l.getD j 0)) := by rw [cell_of_row _ _ _ _ _ _ LS.out, mixL_get s t hj8]
              have ct : wr.cell? ⟨r, j, none⟩ = some (.int .u32 (t.l.getD j 0)) := by rw [cell_of_row _ _ _ _ _ _ LV.out, rowN_get (by exact hj8)]
              have fj : wr.frozen? ⟨p, j, none⟩ = false := (Rg.cells_of LS.out).2.1 _
              have ql := Rg.lt_of_heap LS.out
              have qr := Rg.lt_of_heap LV.out
              have HK : Hid (∀ wy, Ext wr wy → (wy.setCell ⟨p, j, none⟩ (.int .u32 ((s.l.getD j 0 + t.l.getD j 0) % 4294967296))).heap[p]? = some (.cells (rowN (mixL s t (j + 1))) 90)) := Lib.hid (fun wy hy => by
                rw [← mixL_set s t hj8]
                exact heap_setCell_row _ ((hy.block _ (Rg.lt_of_heap LS.out)).trans LS.out))
              clear hj LS
              generalize s.l.getD j 0 = sj at *
              generalize t.l.getD j 0 = tj at *
              go_upto_region 23 with (fail)
              refine Rr.wp_region ((List.range 9).map (fun i => (i, .y))) (fun _ => (.cells #[] 29, Rg.ptr)) (by kernel_rfl) (by kernel_rfl) ?_
              simp only [List.range, List.range.loop, List.map_cons, List.map_nil]
              (refine Rr.wr_y (by simp only [List.getElem?_toArray, List.getElem?_cons_succ, List.getElem?_cons_zero]; rfl) (by rfl) ?_
               apply Exists.intro
               refine ⟨fun wz hw _ => ?_, ?_⟩
               · have hcz := hw.cells.1
                 go_simp
                 (with_reducible exact Rg.up_value)
               simp only [Act.put, List.setIfInBounds_toArray, List.set_cons_zero, List.set_cons_succ])
              (refine Rr.wr_y (by simp only [List.getElem?_toArray, List.getElem?_cons_succ, List.getElem?_cons_zero]; rfl) (by rfl) ?_
               apply Exists.intro
               refine ⟨fun wz hw _ => ?_, ?_⟩
               · have hcz := hw.cells.1
                 go_simp
                 (with_reducible exact Rg.up_value)
               simp only [Act.put, List.setIfInBounds_toArray, List.set_cons_zero, List.set_cons_succ])
              (refine Rr.wr_y (by simp only [List.getElem?_toArray, List.getElem?_cons_succ, List.getElem?_cons_zero]; rfl) (by rfl) ?_
               apply Exists.intro
               refine ⟨fun wz hw _ => ?_, ?_⟩
               · have hcz := hw.cells.1
                 go_simp
                 (with_reducible exact Rg.up_value)
               simp only [Act.put, List.setIfInBounds_toArray, List.set_cons_zero, List.set_cons_succ])
              (refine Rr.wr_y (by simp only [List.getElem?_toArray, List.getElem?_cons_succ, List.getElem?_cons_zero]; rfl) (by rfl) ?_
               apply Exists.intro
               refine ⟨fun wz hw _ => ?_, ?_⟩
               · have hcz := hw.cells.1
                 go_simp
                 (with_reducible exact Rg.up_value)
               simp only [Act.put, List.setIfInBounds_toArray, List.set_cons_zero, List.set_cons_succ])
              (refine Rr.wr_y (by simp only [List.getElem?_toArray, List.getElem?_cons_succ, List.getElem?_cons_zero]; rfl) (by rfl) ?_
               apply Exists.intro
               refine ⟨fun wz hw _ => ?_, ?_⟩
               · have hcz := hw.cells.1
                 go_simp
                 (with_reducible exact Rg.up_value)
               simp only [Act.put, List.setIfInBounds_toArray, List.set_cons_zero, List.set_cons_succ])
              (refine Rr.wr_y (by simp only [List.getElem?_toArray, List.getElem?_cons_succ, List.getElem?_cons_zero]; rfl) (by rfl) ?_
               apply Exists.intro
               refine ⟨fun wz hw _ => ?_, ?_⟩
               · have hcz := hw.cells.1
                 go_simp
                 (with_reducible exact Rg.up_value)
               simp only [Act.put, List.setIfInBounds_toArray, List.set_cons_zero, List.set_cons_succ])
              (refine Rr.wr_y (by simp only [List.getElem?_toArray, List.getElem?_cons_succ, List.getElem?_cons_zero]; rfl) (by rfl) ?_
               apply Exists.intro
               refine ⟨fun wz hw _ => ?_, ?_⟩
               · have hcz := hw.cells.1
                 go_simp
                 (with_reducible exact Rg.up_value)
               simp only [Act.put, List.setIfInBounds_toArray, List.set_cons_zero, List.set_cons_succ])
              (refine Rr.wr_y (by simp only [List.getElem?_toArray, List.getElem?_cons_succ, List.getElem?_cons_zero]; rfl) (by rfl) ?_
               apply Exists.intro
               refine ⟨fun wz hw _ => ?_, ?_⟩
               · have hcz := hw.cells.1
                 go_simp
                 (with_reducible exact Rg.up_value)
               simp only [Act.put, List.setIfInBounds_toArray, List.set_cons_zero, List.set_cons_succ])
              (refine Rr.wr_y (by simp only [List.getElem?_toArray, List.getElem?_cons_succ, List.getElem?_cons_zero]; rfl) (by rfl) ?_
               apply Exists.intro
               refine ⟨fun wz hw _ => ?_, ?_⟩
               · have hcz := hw.cells.1
                 go_simp
                 (with_reducible exact Rg.up_value)
               simp only [Act.put, List.setIfInBounds_toArray, List.set_cons_zero, List.set_cons_succ])
              refine Rr.wr_nil ?_
              intro wy hy hh
              simp only [List.length_cons, List.length_nil, List.drop_succ_cons, List.drop_zero, Nat.reduceAdd]
              clear hh
              have dr' := (hy.cells.1 _ j ql).trans cj
              have df' := (hy.cells.2 _ j ql).trans fj
              go_wp2_with (fail)
              exact ⟨⟨j + 1, by simp, by omega, Lib.hid (HK.out wy hy), Lib.hid ((heap_setCell_other _ (by omega)).trans ((hy.block _ (Rg.lt_of_heap LR.out)).trans LR.out)), Lib.hid ((heap_setCell_other _ (by omega)).trans ((hy.block _ (Rg.lt_of_heap LV.out)).trans LV.out)), Lib.hid (Below.setCell (LX.out.trans hy) (by have := HP.out; simp; omega) _)⟩, by simp [iof]; omega⟩
            · obtain rfl : j = 8 := by omega
              have hU : mixL s t 8 = (sumS s t).l := rfl
              rw [hU] at LS
              generalize sumS s t = u at *
              have LS2 := LS.out
              have s0 := cell_of_row wr p 0 _ _ _ LS2; have s1 := cell_of_row wr p 1 _ _ _ LS2; have s2 := cell_of_row wr p 2 _ _ _ LS2; have s3 := cell_of_row wr p 3 _ _ _ LS2
              have s4 := cell_of_row wr p 4 _ _ _ LS2; have s5 := cell_of_row wr p 5 _ _ _ LS2; have s6 := cell_of_row wr p 6 _ _ _ LS2; have s7 := cell_of_row wr p 7 _ _ _ LS2
              simp only [rowN, S8.l, List.map_cons, List.map_nil, List.getElem?_toArray, List.getElem?_cons_zero, List.getElem?_cons_succ] at s0 s1 s2 s3 s4 s5 s6 s7
              clear LS2 LV hU
              go_wp2_with (first
                | (refine wpList_store_row (hgd := rfl) 90 (.tmp 4) (.tmp 188) rfl (p + 1) (by rfl) (rowN u.l) (by rfl) _ 90 LR.out (by rfl) (by kernel_rfl) (rowN_one _) ?_))
              refine bodyPost_ret (v := .agg (rowN u.l)) (results_cell_row Try.results72 _ _ (p + 1) 90 _ _ _ (by rfl) (setRow_heap _ _ _ _ _ _ LR.out) Try.underlying90 rfl (by kernel_rfl)) rfl ⟨by rw [JB.out], below_setRow LX.out (by have := HP.out; omega) _⟩
end Go.Proofs.Ytbeoihjfjkbfhaa

namespace Go.Proofs.Ytbeoihjfjkbfhaa
set_option linter.unusedVariables false
set_option linter.unusedSimpArgs false
open Go.RowKit Go.WideShapes Go.ChangeShapes

section
variable {H : Type} {enc : TypeId × Value → H} {P : Program}
theorem post_of_below {f : Func} {s : ChangeSpec} {apart fresh handsOn again : Bool} {W W' : World} {args : Array Value} {v : Value} {ds gs : List (DataW H)} {before pa pv : List MemPlace}
    (hW : DataW.Whole enc P f.params.toList s.vars apart W args.toList ds gs before)
    (hres : ∀ (b : Nat) (sp : Nat → Bool) (hd : Bool), DataW.TrodAll enc P W' b sp hd f.resultTypes.toList (v.resultList f.resultTypes.size) (s.fn H (ds ++ gs)).results [])
    (hargs : ∀ sp : Nat → Bool, (∀ p ∈ before, sp p.block = true) → DataW.TrodAll enc P W' 0 sp true f.params.toList args.toList (s.fn H (ds ++ gs)).args pa)
    (hvars : ∀ sp : Nat → Bool, (∀ p ∈ before, sp p.block = true) → DataW.TrodVars enc P W' sp s.vars (s.fn H (ds ++ gs)).vars pv)
    (hps : before = pa ++ pv) (hb : Below W.heap.size W W')
    (hok : ∀ (j : Nat) (t : TypeId) (r : Value), f.resultTypes[j]? = some t → (v.resultList f.resultTypes.size)[j]? = some r → Value.okWide P W' .any 0 t r) :
    s.post enc P f apart fresh handsOn again W args v W' := by
  have hlt : ∀ p ∈ before, p.block < W.heap.size := fun p hp => hW.lt p hp
  have hold : ∀ p ∈ before, (fun b => decide (b < W.heap.size)) p.block = true := fun p hp => by simpa using hlt p hp
  refine ⟨ds, gs, before, [], pa, pv, hW, hres _ _ _, hargs _ hold, hvars _ hold, World.keptBut_mono (fun p hp => ⟨hp, ?_⟩) (hb.frame (· ∈ before)), fun _ => ?_⟩
  · rw [hps, List.mem_append] at hp
    exact Or.inr hp
  · obtain ⟨_, _, _, _, _, hz, hn⟩ := hW
    refine ⟨hok, _, _, ([] ++ pa) ++ pv, ⟨[] ++ pa, pv, trodAll_append (hargs _ (fun _ _ => rfl)) (hres _ _ _), hvars _ (fun _ _ => rfl), rfl, ?_, ?_⟩, ?_⟩
    · intro b off hp
      have hin : MemPlace.cell b off ∈ before := by rw [hps]; simpa using hp
      rw [hb.frozen (hlt _ hin)]
      exact hz b off hin
    · intro ha
      have := hn ha
      rw [hps] at this
      simpa using this
    · intro p hp _
      rw [hps]
      simpa using hp
end

end Go.Proofs.Ytbeoihjfjkbfhaa

namespace Go.Proofs.Ytbeoihjfjkbfhaa
set_option linter.unusedVariables false
set_option linter.unusedSimpArgs false
open Go.RowKit Go.WideShapes Go.ChangeShapes

theorem sameAt_below {w w' : World} (hb : Below w.heap.size w w') (p : MemPlace) (hp : p.block < w.heap.size) : w.sameAt w' p := by
  cases p with
  | cell b off => exact Below.cell (p := ⟨b, off, none⟩) hb hp
  | map b => exact hb.block b hp
section
variable {H : Type} {enc : TypeId × Value → H} {P : Program} {w w' : World} {base : Nat} {sp : Nat → Bool} {held : Bool}
theorem trodAll_below (hb : Below w.heap.size w w') : ∀ {ts : List TypeId} {vs : List Value} {ds : List (DataW H)} {ps : List MemPlace}, DataW.TrodAll enc P w base sp held ts vs ds ps → DataW.TrodAll enc P w' base sp held ts vs ds ps
  | [], [], [], _, h => h
  | t :: ts, v :: vs, d :: ds, ps, h => by
    obtain ⟨p, q, ⟨fuel, hp⟩, hq, e⟩ := h
    exact ⟨p, q, ⟨fuel, DataW.trod_carry fuel t _ _ hp fun x hx => sameAt_below hb x (DataW.trod_lt fuel t _ _ hp x hx)⟩, trodAll_below hb hq, e⟩
  | [], _ :: _, _, _, h => h.elim
  | [], [], _ :: _, _, h => h.elim
  | _ :: _, [], _, _, h => h.elim
  | _ :: _, _ :: _, [], _, h => h.elim
end

theorem kids : Kids Try.prog (· < Try.prog.types.size) := kids_rows (by kernel_rfl) (by kernel_rfl)
theorem full : ∀ t e, t < Try.prog.types.size → Try.prog.underlying t = some (.slice e) → 0 < Try.prog.cellsOf e := slices_full_of Try.prog (by kernel_rfl)
theorem own : ownKnob Try.prog.godebug = none := by kernel_rfl
theorem cells3 : Try.prog.cellsOf 3 = 1 := by kernel_rfl

end Go.Proofs.Ytbeoihjfjkbfhaa

namespace Go.Proofs.Ytbeoihjfjkbfhaa
set_option linter.unusedVariables false
set_option linter.unusedSimpArgs false
open Go.RowKit Go.WideShapes Go.ChangeShapes
set_option maxRecDepth 100000

section
variable {H : Type} {enc : TypeId × Value → H} {W W' : World} {sp : Nat → Bool}
theorem trodAll_stay (hb : Below W.heap.size W W') : ∀ {ts : List TypeId} {vs : List Value} {ds : List (DataW H)} {ps : List MemPlace}, (∀ t ∈ ts, t < Try.prog.types.size) →
    DataW.TrodAll enc Try.prog W 0 (fun _ => true) true ts vs ds ps → (∀ p ∈ ps, sp p.block = true) → DataW.TrodAll enc Try.prog W' 0 sp true ts vs ds ps
  | [], [], [], _, _, h, _ => h
  | t :: ts, v :: vs, d :: ds, ps, ht, h, hs => by
    obtain ⟨p, q, ⟨fuel, hp⟩, hq, e⟩ := h
    subst e
    refine ⟨p, q, ⟨fuel, ?_⟩, trodAll_stay hb (fun t h => ht t (List.mem_cons_of_mem _ h)) hq (fun x hx => hs x (List.mem_append_right _ hx)), rfl⟩
    exact DataW.trod_stays kids (fun {t e} ht hu => full t e ht hu) (fun h => by cases h) (ht t List.mem_cons_self) hp
      (fun x hx => sameAt_below hb x (DataW.trod_lt fuel t _ _ hp x hx)) (fun x hx => hs x (List.mem_append_left _ hx))
  | [], _ :: _, _, _, _, h, _ => h.elim
  | [], [], _ :: _, _, _, h, _ => h.elim
  | _ :: _, [], _, _, _, h, _ => h.elim
  | _ :: _, _ :: _, [], _, _, h, _ => h.elim

theorem i64_of_wf {n : Int} (h : (Lit.int .i64 n).wf = true) : -9223372036854775808 ≤ n ∧ n ≤ 9223372036854775807 := by
  simpa [Lit.wf, IntKind.min, IntKind.max, IntKind.signed, IntKind.bits] using h
end
end Go.Proofs.Ytbeoihjfjkbfhaa

namespace Go.Proofs.Ytbeoihjfjkbfhaa
set_option linter.unusedVariables false
set_option linter.unusedSimpArgs false
open Go.RowKit Go.MapKept Go.ChangeMaps
open Go.Maps (Keyed)

/-- How keys of a type are written. -/
structure KE {κ : Type} (P : Program) (k : TypeId) (enc : κ → Value) (good : κ → Prop) : Prop where
  keyed : Keyed P k
  inj : ∀ a b, enc a = enc b → a = b
  lit : ∀ a, good a → ∃ l, keyOf P k (enc a) = some l

section
variable {κ : Type}
/-- Block b is a map of the pairs l. -/
def MP (enc : κ → Value) (good : κ → Prop) (w : World) (b : Nat) (l : List (κ × Value)) : Prop :=
  (∀ p ∈ l, good p.1) ∧ (l.map (·.1)).Nodup ∧ ∃ es clock, w.heap[b]? = some (.map es clock) ∧ es.toList.map (fun e => (e.key, e.val)) = l.map (fun p => (enc p.1, p.2)) ∧ MapKept.Stamped es clock

variable {enc : κ → Value} {good : κ → Prop} {P : Program} {k e t : TypeId} {w w' : World} {b : Nat} {l : List (κ × Value)}

theorem MP.nodup (h : MP enc good w b l) : (l.map (·.1)).Nodup := h.2.1
theorem MP.gd (h : MP enc good w b l) : ∀ p ∈ l, good p.1 := h.1
theorem MP.lt (h : MP enc good w b l) : b < w.heap.size := by
  obtain ⟨-, -, es, clock, hb, -, -⟩ := h
  exact (Array.getElem?_eq_some_iff.1 hb).1
theorem MP.of_block (h : MP enc good w b l) (hb : w'.heap[b]? = w.heap[b]?) : MP enc good w' b l := by
  obtain ⟨h1, h2, es, clock, h3, h4⟩ := h
  exact ⟨h1, h2, es, clock, hb.trans h3, h4⟩
theorem MP.ext (h : MP enc good w b l) (x : Ext w w') : MP enc good w' b l := h.of_block (x.block _ h.lt)
theorem MP.below {B : Nat} (h : MP enc good w b l) (x : Below B w w') (hb : b < B) : MP enc good w' b l := h.of_block (x.block _ hb)
theorem MP.kept {row : Option Nat} (h : MP enc good w b l) (x : w.grownBy w' row) (hne : some b ≠ row) : MP enc good w' b l := h.of_block (x.block b h.lt hne)
theorem MP.made (w : World) : MP enc good (w.alloc (.map #[] 0)) w.heap.size [] := ⟨by simp, by simp, #[], 0, (MapKept.heap_alloc w _).1, by simp, MapKept.stamped_empty _⟩
theorem MP.setCell (h : MP enc good w b l) {a : Addr} (ha : b ≠ a.block) (u : Value) : MP enc good (w.setCell a u) b l := h.of_block (RowKit.Below.heap_setCell _ _ _ _ ha)

/-- A look-up in a nil map. -/
theorem look_nil (K : KE P k enc good) (ht : P.underlying t = some (.map k e)) {z : Value} (hz : (zeroValue e).run P w = .ok z w) {x : κ} (hx : good x) (c : Bool) :
    (Instr.lookup t (.map none) (enc x) c).run P w = .ok (if c then .tuple #[z, .bool false] else z) w := by
  obtain ⟨li, hli⟩ := K.lit x hx
  rcases K.keyed.find w hli [] (by simp) with ⟨hf, -⟩ | ⟨j, e, -, h2, -⟩
  · simp [Instr.lookup, run_underlying ht, K.keyed.check w _ hli, hf, hz, Result.andThen]
  · simp at h2

/-- 'len(m)'. -/
theorem MP.len (h : MP enc good w b l) (ht : P.underlying t = some (.map k e)) (ty : TypeId) : (Builtin.len_ #[t] ty #[.map (some b)]).run P w = .ok (.int .i64 l.length) w := by
  obtain ⟨h1, h2, es, clock, hb, hes, hst⟩ := h
  have : es.size = l.length := by have := congrArg List.length hes; simpa using this
  simp [Builtin.len_, run_underlying ht, MapKept.run_getObj_map hb, goInt, Result.andThen, this]

theorem wpList_len {ops : Array Oper} {rest : List Oper} {o : Oper} {a : Act} {Q : Exit → Act → World → Prop} (hg : o.guard = none) (m : Operand) (t : TypeId) (hop : o.op = Op.call { callee := Callee.builtin Builtin.len, args := #[m], argTypes := #[t] }) (k e : TypeId) (ht : P.underlying t = some (.map k e))
    (b : Nat) (l : List (κ × Value)) (hm : a.eval m = .map (some b)) (h : MP enc good w b l) (hK : wpList P ops Q rest (a.put o.dst (.int .i64 l.length)) w) : wpList P ops Q (o :: rest) a w := by
  refine wpList_plain hg fun K' hK' => ?_
  unfold Oper.wp
  simp [execOp, hop, resolve, invoke, builtin, hm, h.len ht o.type, Result.andThen]
  exact hK' _ _ hK
theorem entries_keyed (K : KE P k enc good) {es : Array MapEntry} (hg : ∀ p ∈ l, good p.1) (hes : es.toList.map (fun e => (e.key, e.val)) = l.map (fun p => (enc p.1, p.2))) : ∀ e ∈ es.toList, ∃ l, keyOf P k e.key = some l := by
  intro e he
  have : (e.key, e.val) ∈ es.toList.map (fun e => (e.key, e.val)) := List.mem_map.2 ⟨e, he, rfl⟩
  rw [hes] at this
  obtain ⟨p, hp, hpe⟩ := List.mem_map.1 this
  obtain ⟨li, hli⟩ := K.lit p.1 (hg p hp)
  refine ⟨li, ?_⟩
  have h1 : enc p.1 = e.key := congrArg Prod.fst hpe
  rw [← h1]
  exact hli


/-- A loop over a map under way: block b is the map of the pairs l, block r its iterator, and left is what is still to come. -/
def RG (enc : κ → Value) (good : κ → Prop) (w : World) (b r : Nat) (l left : List (κ × Value)) : Prop :=
  MP enc good w b l ∧ (∀ p ∈ left, p ∈ l) ∧ ∃ es clock since seen c0, w.heap[b]? = some (.map es clock) ∧ w.heap[r]? = some (.mapIter (some b) since seen c0) ∧ (∀ x ∈ es.toList, x.born < since) ∧ since ≤ c0 ∧ since ≤ clock ∧
    (leftOf es seen).toList.map (fun e => (e.key, e.val)) = left.map (fun p => (enc p.1, p.2))
theorem RG.mp {r : Nat} {left : List (κ × Value)} (h : RG enc good w b r l left) : MP enc good w b l := h.1
theorem RG.lt {r : Nat} {left : List (κ × Value)} (h : RG enc good w b r l left) : r < w.heap.size := by
  obtain ⟨-, -, es, clock, since, seen, c0, hb, hr, -⟩ := h
  exact (Array.getElem?_eq_some_iff.1 hr).1
theorem RG.of_blocks {r : Nat} {left : List (κ × Value)} (h : RG enc good w b r l left) (hb : w'.heap[b]? = w.heap[b]?) (hr : w'.heap[r]? = w.heap[r]?) : RG enc good w' b r l left := by
  obtain ⟨h1, h2, es, clock, since, seen, c0, h3, h4, h5⟩ := h
  exact ⟨h1.of_block hb, h2, es, clock, since, seen, c0, hb.trans h3, hr.trans h4, h5⟩
theorem RG.ext {r : Nat} {left : List (κ × Value)} (h : RG enc good w b r l left) (x : Ext w w') : RG enc good w' b r l left := h.of_blocks (x.block _ h.1.lt) (x.block _ h.lt)
theorem RG.kept {r : Nat} {left : List (κ × Value)} {row : Option Nat} (h : RG enc good w b r l left) (x : w.grownBy w' row) (hb : some b ≠ row) (hr : some r ≠ row) : RG enc good w' b r l left := h.of_blocks (x.block b h.1.lt hb) (x.block r h.lt hr)

/-- 'range m'. -/
theorem MP.range (h : MP enc good w b l) (ht : P.underlying t = some (.map k e)) :
    ∃ w', (Instr.range t (.map (some b))).run P w = .ok (.pointer (some ⟨w.heap.size, 0, none⟩)) w' ∧ RG enc good w' b w.heap.size l l ∧ Ext w w' ∧ w'.heap.size = w.heap.size + 1 := by
  have h0 := h
  obtain ⟨h1, h2, es, clock, hb, hes, hst⟩ := h
  have hst' := (MapKept.stamped_iff es clock).1 hst
  refine ⟨_, run_range_map w t k e b es clock ht hb, ⟨h0.ext (Ext.alloc (Ext.refl _) _), fun p hp => hp, es, clock, clock, #[], clock, ((MapKept.heap_alloc w _).2 b h0.lt).trans hb, (MapKept.heap_alloc w _).1, hst'.1, Nat.le_refl _, Nat.le_refl _, ?_⟩, Ext.alloc (Ext.refl _) _, by simp⟩
  rw [← hes]
  simp only [leftOf, Array.toList_filter]
  rw [List.filter_eq_self.2 (by simp)]

theorem RG.left_eq {r : Nat} {left : List (κ × Value)} (h : RG enc good w b r l left) : w.rangeLeft b r = left.length := by
  obtain ⟨-, -, es, clock, since, seen, c0, hb, hr, -, -, -, hl⟩ := h
  simp only [World.rangeLeft, hb, hr]
  have := congrArg List.length hl
  simpa using this
theorem map_split {α β γ : Type} {f : α → γ} {g : β → γ} : ∀ {l : List α} {m : List β}, l.map f = m.map g → ∀ {pre post : List α} {x : α}, l = pre ++ x :: post → ∃ pre' y post', m = pre' ++ y :: post' ∧ f x = g y ∧ pre.map f = pre'.map g ∧ post.map f = post'.map g
  | l, m, h, [], post, x, e => by
    subst e
    cases m with
    | nil => simp at h
    | cons y m =>
      simp only [List.nil_append, List.map_cons, List.cons.injEq] at h
      exact ⟨[], y, m, rfl, h.1, rfl, h.2⟩
  | l, m, h, a :: pre, post, x, e => by
    subst e
    cases m with
    | nil => simp at h
    | cons y m =>
      simp only [List.cons_append, List.map_cons, List.cons.injEq] at h
      obtain ⟨pre', z, post', h1, h2, h3, h4⟩ := map_split h.2 (pre := pre) (post := post) (x := x) rfl
      exact ⟨y :: pre', z, post', by rw [h1]; rfl, h2, by simp [h.1, h3], h4⟩
theorem filter_drop {α : Type} (p q : α → Bool) : ∀ {l : List α} {pre post : List α} {x : α}, l = pre ++ x :: post → q x = false → (∀ y ∈ pre, q y = true) → (∀ y ∈ post, q y = true) → l.filter q = pre ++ post := by
  intro l pre post x e hx h1 h2
  subst e
  rw [List.filter_append, List.filter_cons, hx, List.filter_eq_self.2 h1, List.filter_eq_self.2 h2]
  simp

/-- The step of a loop over a map. -/
theorem RG.next {r : Nat} {left : List (κ × Value)} (h : RG enc good w b r l left) (ty : TypeId) :
    (left = [] ∧ (Instr.next (.pointer (some ⟨r, 0, none⟩)) false ty).run P w = .ok (.tuple #[.bool false]) w) ∨
    ∃ pre x v post w', left = pre ++ (x, v) :: post ∧ (Instr.next (.pointer (some ⟨r, 0, none⟩)) false ty).run P w = .ok (.tuple #[.bool true, enc x, v]) w' ∧
      RG enc good w' b r l (pre ++ post) ∧ w.grownBy w' (some r) ∧ w'.heap.size = w.heap.size ∧ (Instr.entry (.pointer (some ⟨r, 0, none⟩))).run P w' = .ok (.tuple #[enc x, v]) w' := by
  obtain ⟨hm, hin, es, clock, since, seen, c0, hb, hr, hold, hsc, hsk, hl⟩ := h
  have hne : r ≠ b := by
    intro e
    rw [e, hb] at hr
    cases hr
  obtain ⟨-, -, es', clock', hb0, hes, hst⟩ := id hm
  rw [hb] at hb0
  injection hb0 with hb0
  injection hb0 with hb1 hb2
  subst hb1 hb2
  have hst' := (MapKept.stamped_iff es clock).1 hst
  rcases run_next_at (P := P) w ty r b since c0 seen es clock hr hb hold hsc with ⟨h0, hrun⟩ | ⟨e, he, w1, hal, hrun⟩
  · refine .inl ⟨?_, hrun⟩
    have : (leftOf es seen).toList = [] := by rw [← List.length_eq_zero_iff]; simpa using h0
    rw [this] at hl
    simpa using hl.symm
  · obtain ⟨hem, hes0⟩ := mem_left he
    obtain ⟨pre, post, hpp⟩ := List.append_of_mem he
    obtain ⟨pre', y, post', hl', hy, hpre, hpost⟩ := map_split hl hpp
    obtain ⟨x, v⟩ := y
    simp only [Prod.mk.injEq] at hy
    have hr1 : w1.heap[r]? = some (.mapIter (some b) since seen c0) := by rcases hal with rfl | rfl <;> exact hr
    have hb1 : w1.heap[b]? = some (.map es clock) := by rcases hal with rfl | rfl <;> exact hb
    have hset := heap_set (o' := .mapIter (some b) since (seen.push e.born) clock) hr1
    have hb' : (setBlock w1 r (.mapIter (some b) since (seen.push e.born) clock)).heap[b]? = some (.map es clock) := (hset.2 b (fun e1 => hne e1.symm)).trans hb1
    have hent := run_entry_at (P := P) _ r b since seen es clock e hset.1 hb' hem hst'.2.1
    rw [hy.1, hy.2] at hrun hent
    refine .inr ⟨pre', x, v, post', _, hl', hrun, ⟨hm.of_block (hb'.trans hb.symm), fun p hp => hin p ?_, es, clock, since, seen.push e.born, clock, hb', hset.1, hold, hsk, hsk, ?_⟩, ?_, ?_, hent⟩
    · rw [hl']
      rcases List.mem_append.1 hp with hp | hp
      · exact List.mem_append_left _ hp
      · exact List.mem_append_right _ (List.mem_cons_of_mem _ hp)
    · have hnd : ((leftOf es seen).toList.map (·.born)).Nodup := by
        unfold leftOf
        rw [Array.toList_filter]
        exact (List.Sublist.map _ List.filter_sublist).nodup hst'.2.1
      rw [hpp, List.map_append, List.map_cons] at hnd
      have hfl : (leftOf es (seen.push e.born)).toList = (leftOf es seen).toList.filter (fun z => !(z.born == e.born)) := by
        unfold leftOf
        rw [Array.toList_filter, Array.toList_filter, List.filter_filter]
        apply List.filter_congr
        intro z _
        rw [contains_push]
        cases seen.contains z.born <;> cases (z.born == e.born) <;> rfl
      rw [List.nodup_append, List.nodup_cons] at hnd
      rw [hfl, filter_drop (fun _ => true) _ hpp (by simp) (fun z hz => ?_) (fun z hz => ?_), List.map_append, List.map_append, hpre, hpost]
      · have := hnd.2.2 z.born (List.mem_map.2 ⟨z, hz, rfl⟩) e.born List.mem_cons_self
        simpa using this
      · have : z.born ≠ e.born := fun e1 => hnd.2.1.1 (by rw [← e1]; exact List.mem_map.2 ⟨z, hz, rfl⟩)
        simpa using this
    · rcases hal with rfl | rfl <;> exact ⟨rfl, rfl, rfl, by simp [setBlock], fun i _ hi => hset.2 i (fun e1 => hi (by rw [e1]))⟩
    · rcases hal with rfl | rfl <;> simp [setBlock]

section
variable {ops : Array Oper} {rest : List Oper} {o : Oper} {a : Act} {Q : Exit → Act → World → Prop}
theorem wpList_range (hg : o.guard = none) (m : Operand) (t : TypeId) (hop : o.op = Op.range t m) (k e : TypeId) (ht : P.underlying t = some (.map k e))
    (b : Nat) (l : List (κ × Value)) (hm : a.eval m = .map (some b)) (h : MP enc good w b l)
    (hK : ∀ w', RG enc good w' b w.heap.size l l → Ext w w' → w'.heap.size = w.heap.size + 1 → wpList P ops Q rest (a.put o.dst (.pointer (some ⟨w.heap.size, 0, none⟩))) w') : wpList P ops Q (o :: rest) a w := by
  refine wpList_plain hg fun K' hK' => ?_
  obtain ⟨w', hrun, r1, r2, r3⟩ := h.range ht
  unfold Oper.wp
  simp [execOp, hop, hm, hrun, Result.andThen]
  exact hK' _ _ (hK w' r1 r2 r3)
theorem wpList_next (hg : o.guard = none) (it : Operand) (hop : o.op = Op.next it false) (b r : Nat) (l left : List (κ × Value)) (hit : a.eval it = .pointer (some ⟨r, 0, none⟩)) (h : RG enc good w b r l left)
    (hDone : left = [] → wpList P ops Q rest (a.put o.dst (.tuple #[.bool false])) w)
    (hMore : ∀ pre x v post w', left = pre ++ (x, v) :: post → RG enc good w' b r l (pre ++ post) → w.grownBy w' (some r) → w'.heap.size = w.heap.size → (Instr.entry (.pointer (some ⟨r, 0, none⟩))).run P w' = .ok (.tuple #[enc x, v]) w' → wpList P ops Q rest (a.put o.dst (.tuple #[.bool true, enc x, v])) w') : wpList P ops Q (o :: rest) a w := by
  refine wpList_plain hg fun K' hK' => ?_
  unfold Oper.wp
  rcases h.next (P := P) o.type with ⟨h0, hrun⟩ | ⟨pre, x, v, post, w', h1, hrun, h2, h3, h4, h5⟩
  · simp [execOp, hop, hit, hrun, Result.andThen]
    exact hK' _ _ (hDone h0)
  · simp [execOp, hop, hit, hrun, Result.andThen]
    exact hK' _ _ (hMore pre x v post w' h1 h2 h3 h4 h5)
end

end

section
variable {κ : Type} [DecidableEq κ]

/-- The store of an element. -/
def putL (l : List (κ × Value)) (x : κ) (v : Value) : List (κ × Value) :=
  if x ∈ l.map (·.1) then l.map (fun p => if p.1 = x then (x, v) else p) else l ++ [(x, v)]

theorem putL_keys (l : List (κ × Value)) (x : κ) (v : Value) : (putL l x v).map (·.1) = if x ∈ l.map (·.1) then l.map (·.1) else l.map (·.1) ++ [x] := by
  unfold putL
  split
  · rw [List.map_map]
    apply List.map_congr_left
    intro p _
    by_cases h : p.1 = x <;> simp [h]
  · simp
theorem putL_nodup {l : List (κ × Value)} (h : (l.map (·.1)).Nodup) (x : κ) (v : Value) : ((putL l x v).map (·.1)).Nodup := by
  rw [putL_keys]
  split
  · exact h
  · rename_i hx
    rw [List.nodup_append]
    refine ⟨h, List.nodup_cons.2 ⟨by simp, List.nodup_nil⟩, fun a ha b hb e => ?_⟩
    rw [List.mem_singleton] at hb
    exact hx (hb ▸ e ▸ ha)
theorem lookup_none {l : List (κ × Value)} {x : κ} : l.lookup x = none ↔ x ∉ l.map (·.1) := by
  induction l with
  | nil => simp
  | cons p l ih =>
    obtain ⟨k, v⟩ := p
    by_cases h : x = k
    · subst h; simp
    · have hb : (x == k) = false := by simpa using h
      simp only [List.lookup_cons, hb, List.map_cons, List.mem_cons, h, false_or]
      exact ih
theorem lookup_mem {l : List (κ × Value)} {x : κ} {v : Value} (h : l.lookup x = some v) : (x, v) ∈ l := by
  induction l with
  | nil => simp at h
  | cons p l ih =>
    obtain ⟨k, u⟩ := p
    by_cases hx : x = k
    · subst hx
      simp at h
      simp [h]
    · have hb : (x == k) = false := by simpa using hx
      rw [List.lookup_cons, hb] at h
      exact List.mem_cons_of_mem _ (ih h)
theorem mem_lookup {l : List (κ × Value)} (hn : (l.map (·.1)).Nodup) {x : κ} {v : Value} (h : (x, v) ∈ l) : l.lookup x = some v := by
  induction l with
  | nil => simp at h
  | cons p l ih =>
    obtain ⟨k, u⟩ := p
    rw [List.map_cons, List.nodup_cons] at hn
    rcases List.mem_cons.1 h with e | h'
    · cases e; simp
    · have hx : x ≠ k := fun e => hn.1 (e ▸ List.mem_map.2 ⟨_, h', rfl⟩)
      have hb : (x == k) = false := by simpa using hx
      rw [List.lookup_cons, hb]
      exact ih hn.2 h'
theorem lookup_append (l m : List (κ × Value)) (x : κ) : (l ++ m).lookup x = (l.lookup x).or (m.lookup x) := by
  induction l with
  | nil => simp
  | cons p l ih =>
    obtain ⟨k, u⟩ := p
    by_cases h : (x == k) = true
    · simp [List.lookup_cons, h]
    · have hb : (x == k) = false := by simpa using h
      rw [List.cons_append, List.lookup_cons, List.lookup_cons, hb]
      exact ih
theorem lookup_map_ne (l : List (κ × Value)) (x : κ) (v : Value) (y : κ) (h : y ≠ x) : (l.map (fun p => if p.1 = x then (x, v) else p)).lookup y = l.lookup y := by
  induction l with
  | nil => rfl
  | cons p l ih =>
    obtain ⟨k, u⟩ := p
    rw [List.map_cons]
    by_cases hk : k = x
    · subst hk
      have hb : (y == k) = false := by simpa using h
      simp only [if_true, List.lookup_cons, hb]
      exact ih
    · simp only [hk, if_false, List.lookup_cons, ih]
theorem lookup_map_eq (l : List (κ × Value)) (x : κ) (v : Value) (h : x ∈ l.map (·.1)) : (l.map (fun p => if p.1 = x then (x, v) else p)).lookup x = some v := by
  induction l with
  | nil => simp at h
  | cons p l ih =>
    obtain ⟨k, u⟩ := p
    rw [List.map_cons]
    by_cases hk : k = x
    · subst hk; simp
    · have hb : (x == k) = false := by simpa using fun e => hk e.symm
      simp only [hk, if_false, List.lookup_cons, hb]
      refine ih ?_
      rw [List.map_cons, List.mem_cons] at h
      exact h.resolve_left (fun e => hk e.symm)
theorem lookup_put (l : List (κ × Value)) (x : κ) (v : Value) (y : κ) : (putL l x v).lookup y = if y = x then some v else l.lookup y := by
  unfold putL
  split
  · rename_i hx
    by_cases h : y = x
    · rw [if_pos h, h, lookup_map_eq l x v hx]
    · rw [if_neg h, lookup_map_ne l x v y h]
  · rename_i hx
    rw [lookup_append]
    by_cases h : y = x
    · rw [if_pos h, h, lookup_none.2 hx]; simp
    · have hb : (y == x) = false := by simpa using h
      rw [if_neg h]
      cases hl : l.lookup y <;> simp [List.lookup_cons, hb]

variable {enc : κ → Value} {good : κ → Prop} {P : Program} {k e t : TypeId} {w w' : World} {b : Nat} {l : List (κ × Value)}

theorem MP.find (K : KE P k enc good) (h : MP enc good w b l) {x : κ} (hx : good x) {es : Array MapEntry} (hes : es.toList.map (fun e => (e.key, e.val)) = l.map (fun p => (enc p.1, p.2))) :
    ((Instr.findKey k (enc x) es.toList).run P w = .ok none w ∧ l.lookup x = none) ∨
    ∃ (j : Nat) (v : Value), (Instr.findKey k (enc x) es.toList).run P w = .ok (some (j, v)) w ∧ l.lookup x = some v ∧ ∃ e, es.toList[j]? = some e ∧ e.key = enc x ∧ e.val = v ∧ l[j]? = some (x, v) := by
  obtain ⟨li, hli⟩ := K.lit x hx
  rcases K.keyed.find w hli es.toList (entries_keyed K h.gd hes) with ⟨h1, h2⟩ | ⟨j, e, h1, h2, h3⟩
  · refine .inl ⟨h1, lookup_none.2 fun hm => ?_⟩
    obtain ⟨p, hp, hpx⟩ := List.mem_map.1 hm
    have : (enc p.1, p.2) ∈ es.toList.map (fun e => (e.key, e.val)) := by rw [hes]; exact List.mem_map.2 ⟨p, hp, rfl⟩
    obtain ⟨e, he, hpe⟩ := List.mem_map.1 this
    have h3 : e.key = enc p.1 := congrArg Prod.fst hpe
    rw [hpx] at h3
    exact h2 e he h3
  · have h4 : (es.toList.map (fun e => (e.key, e.val)))[j]? = some (e.key, e.val) := by rw [List.getElem?_map, h2]; rfl
    rw [hes, List.getElem?_map] at h4
    cases hl : l[j]? with
    | none => rw [hl] at h4; simp at h4
    | some p =>
      rw [hl] at h4
      simp only [Option.map_some, Option.some.injEq, Prod.mk.injEq] at h4
      obtain ⟨k1, v1⟩ := p
      have hk : k1 = x := K.inj _ _ (h4.1.trans h3)
      subst hk
      have hv : v1 = e.val := h4.2
      subst hv
      exact .inr ⟨j, e.val, h1, mem_lookup h.nodup (List.mem_of_getElem? hl), e, h2, h3, rfl, hl⟩

/-- 'm[k]' and 'v, ok := m[k]'. -/
theorem MP.look (K : KE P k enc good) (ht : P.underlying t = some (.map k e)) {z : Value} (hz : (zeroValue e).run P w = .ok z w) (h : MP enc good w b l) {x : κ} (hx : good x) (c : Bool) :
    (Instr.lookup t (.map (some b)) (enc x) c).run P w = .ok (if c then .tuple #[(l.lookup x).getD z, .bool (l.lookup x).isSome] else (l.lookup x).getD z) w := by
  have h0 := h
  obtain ⟨h1, h2, es, clock, hb, hes, hst⟩ := h
  obtain ⟨li, hli⟩ := K.lit x hx
  rcases MP.find K h0 hx hes with ⟨hf, hl⟩ | ⟨j, v, hf, hl, -⟩
  · simp [Instr.lookup, run_underlying ht, MapKept.run_getObj_map hb, K.keyed.check w _ hli, hf, hl, hz, Result.andThen]
  · simp [Instr.lookup, run_underlying ht, MapKept.run_getObj_map hb, K.keyed.check w _ hli, hf, hl, Result.andThen]

theorem modify_toList (es : Array MapEntry) (j : Nat) (f : MapEntry → MapEntry) : (es.modify j f).toList = es.toList.modify j f := by simp

theorem map_modify_key {l : List (κ × Value)} (hn : (l.map (·.1)).Nodup) {j : Nat} {x : κ} {v0 : Value} (hj : l[j]? = some (x, v0)) (v : Value) : l.set j (x, v) = l.map (fun p => if p.1 = x then (x, v) else p) := by
  apply List.ext_getElem?
  intro i
  rw [List.getElem?_set, List.getElem?_map]
  by_cases hi : j = i
  · subst hi
    have hlt := (List.getElem?_eq_some_iff.1 hj).1
    rw [if_pos rfl, if_pos hlt, hj]
    simp
  · rw [if_neg hi]
    cases hl : l[i]? with
    | none => rfl
    | some p =>
      have hne : p.1 ≠ x := by
        intro e
        have h1 : (l.map (·.1))[i]? = some x := by rw [List.getElem?_map, hl]; simp [e]
        have h2 : (l.map (·.1))[j]? = some x := by rw [List.getElem?_map, hj]; rfl
        have hlt := (List.getElem?_eq_some_iff.1 h1).1
        exact hi ((List.getElem?_inj hlt hn).1 (h1.trans h2.symm)).symm
      simp [hne]

/-- 'm[k] = v'. -/
theorem MP.update (K : KE P k enc good) (ht : P.underlying t = some (.map k e)) (h : MP enc good w b l) {x : κ} (hx : good x) (v : Value) :
    ∃ w', (Instr.mapUpdate t (.map (some b)) (enc x) v).run P w = .ok () w' ∧ MP enc good w' b (putL l x v) ∧ w.grownBy w' (some b) := by
  have h0 := h
  obtain ⟨h1, h2, es, clock, hb, hes, hst⟩ := h
  obtain ⟨li, hli⟩ := K.lit x hx
  rcases MP.find K h0 hx hes with ⟨hf, hl⟩ | ⟨j, v0, hf, hl, e0, hj, hek, hev, hlj⟩
  · have hm := lookup_none.1 hl
    refine ⟨setBlock w b (.map (es.push { key := enc x, val := v, born := clock }) (clock + 1)), ?_, ⟨?_, putL_nodup h2 x v, _, _, heap_setBlock_same hb _, ?_, MapKept.stamped_push hst (fun y hy e => ?_)⟩, ⟨rfl, rfl, rfl, by simp [setBlock], fun i _ hi => heap_setBlock_other hb _ (fun e => hi (by rw [e]))⟩⟩
    · simp [Instr.mapUpdate, run_underlying ht, MapKept.run_getObj_map hb, K.keyed.check w _ hli, hf, Result.andThen]
      exact MapKept.run_setObj_map _ hb
    · intro p hp
      unfold putL at hp
      rw [if_neg hm] at hp
      rcases List.mem_append.1 hp with hp | hp
      · exact h1 p hp
      · rw [List.mem_singleton] at hp; subst hp; exact hx
    · unfold putL
      rw [if_neg hm]
      simp [hes]
    · have h3 : (y.key, y.val) ∈ es.toList.map (fun e => (e.key, e.val)) := List.mem_map.2 ⟨y, hy, rfl⟩
      rw [hes] at h3
      obtain ⟨p, hp, hpe⟩ := List.mem_map.1 h3
      exact hm (List.mem_map.2 ⟨p, hp, K.inj _ _ ((congrArg Prod.fst hpe).trans e)⟩)
  · have hm : x ∈ l.map (·.1) := List.mem_map.2 ⟨(x, v0), List.mem_of_getElem? hlj, rfl⟩
    refine ⟨setBlock w b (.map (es.modify j fun e => { e with key := enc x, val := v }) clock), ?_, ⟨?_, putL_nodup h2 x v, _, _, heap_setBlock_same hb _, ?_, MapKept.stamped_modify hst j _ (fun _ _ => rfl) (fun y hy hyj => ?_)⟩, ⟨rfl, rfl, rfl, by simp [setBlock], fun i _ hi => heap_setBlock_other hb _ (fun e => hi (by rw [e]))⟩⟩
    · have hj' : es[j]? = some e0 := by rw [← Array.getElem?_toList]; exact hj
      simp [Instr.mapUpdate, run_underlying ht, MapKept.run_getObj_map hb, K.keyed.check w _ hli, hf, hj', hek, K.keyed.stays w hli, Result.andThen]
      exact MapKept.run_setObj_map _ hb
    · intro p hp
      unfold putL at hp
      rw [if_pos hm] at hp
      obtain ⟨q, hq, rfl⟩ := List.mem_map.1 hp
      by_cases hqx : q.1 = x
      · rw [if_pos hqx]; exact hx
      · rw [if_neg hqx]; exact h1 q hq
    · unfold putL
      rw [if_pos hm, ← map_modify_key h2 hlj v, modify_toList]
      apply List.ext_getElem?
      intro i
      have hi := congrArg (fun q => q[i]?) hes
      simp only [List.getElem?_map] at hi
      rw [List.getElem?_map, List.getElem?_map, List.getElem?_modify, List.getElem?_set]
      by_cases hij : j = i
      · subst hij
        have hlt := (List.getElem?_eq_some_iff.1 hlj).1
        simp [hj, hlt]
      · simp only [hij, if_false]
        rw [← hi]
        cases es.toList[i]? <;> simp
    · have hj' : es[j]? = some e0 := by rw [← Array.getElem?_toList]; exact hj
      rw [hj'] at hyj
      injection hyj with hyj
      rw [← hyj]
      exact hek.symm

section ops
variable {ops : Array Oper} {rest : List Oper} {o : Oper} {a : Act} {Q : Exit → Act → World → Prop}

theorem wpList_look_ok (hg : o.guard = none) (m x : Operand) (t : TypeId) (hop : o.op = Op.lookup t m x true) (k e : TypeId) (K : KE P k enc good) (ht : P.underlying t = some (.map k e)) (z : Value) (hz : (zeroValue e).run P w = .ok z w)
    (b : Nat) (l : List (κ × Value)) (hm : a.eval m = .map (some b)) (h : MP enc good w b l) (key : κ) (hx : a.eval x = enc key) (hgd : good key)
    (hK : wpList P ops Q rest (a.put o.dst (.tuple #[(l.lookup key).getD z, .bool (l.lookup key).isSome])) w) : wpList P ops Q (o :: rest) a w := by
  refine wpList_plain hg fun K' hK' => ?_
  have hrun := h.look K ht hz hgd true
  unfold Oper.wp
  simp [execOp, hop, hm, hx, hrun, Result.andThen]
  exact hK' _ _ hK
theorem wpList_look (hg : o.guard = none) (m x : Operand) (t : TypeId) (hop : o.op = Op.lookup t m x false) (k e : TypeId) (K : KE P k enc good) (ht : P.underlying t = some (.map k e)) (z : Value) (hz : (zeroValue e).run P w = .ok z w)
    (b : Nat) (l : List (κ × Value)) (hm : a.eval m = .map (some b)) (h : MP enc good w b l) (key : κ) (hx : a.eval x = enc key) (hgd : good key)
    (hK : wpList P ops Q rest (a.put o.dst ((l.lookup key).getD z)) w) : wpList P ops Q (o :: rest) a w := by
  refine wpList_plain hg fun K' hK' => ?_
  have hrun := h.look K ht hz hgd false
  unfold Oper.wp
  simp [execOp, hop, hm, hx, hrun, Result.andThen]
  exact hK' _ _ hK
theorem wpList_store (hg : o.guard = none) (m x v : Operand) (t : TypeId) (hop : o.op = Op.mapUpdate t m x v) (k e : TypeId) (K : KE P k enc good) (ht : P.underlying t = some (.map k e))
    (b : Nat) (l : List (κ × Value)) (hm : a.eval m = .map (some b)) (h : MP enc good w b l) (key : κ) (hx : a.eval x = enc key) (hgd : good key) (val : Value) (hv : a.eval v = val)
    (hK : ∀ w', MP enc good w' b (putL l key val) → w.grownBy w' (some b) → wpList P ops Q rest (a.put o.dst undef) w') : wpList P ops Q (o :: rest) a w := by
  refine wpList_plain hg fun K' hK' => ?_
  obtain ⟨w', hrun, r1, r2⟩ := h.update K ht hgd val
  unfold Oper.wp
  simp [execOp, hop, hm, hx, hv, hrun, Result.andThen]
  exact hK' _ _ (hK w' r1 r2)
end ops
end

/-- Keys that are ints. -/
theorem KE.int {P : Program} {k : TypeId} (hk : P.underlying k = some (.int .i64)) : KE P k (fun i : Int => Value.int .i64 i) (fun i => (Lit.int .i64 i).wf = true) :=
  ⟨Go.Maps.int_keyed hk, fun a b h => by injection h, fun a h => ⟨_, Go.Maps.keyOf_int_mk hk h⟩⟩

end Go.Proofs.Ytbeoihjfjkbfhaa

namespace Go.Proofs.Ytbeoihjfjkbfhaa
set_option linter.unusedVariables false
set_option linter.unusedSimpArgs false
open Go.Shelf
def cmpS_ren : Go.Shelf.Ren := ⟨fun | 106 => 43 | 213 => 53 | 265 => 70 | n => n, fun | 9 => 9 | 3 => 3 | n => n, fun | n => n⟩
theorem cmpS : Go.Proofs.Lays.n106 Try.prog cmpS_ren := {
  mixed := by kernel_rfl
  f106 := Try.func43.trans (congrArg some (by kernel_rfl))
  f213 := Try.func53.trans (congrArg some (by kernel_rfl))
  f265 := Try.func70.trans (congrArg some (by kernel_rfl))
  t3 := Try.underlying3
  a3 := Try.isAgg3
  z3 := Try.sizeOf3
  v3 := Try.zeroValue3
  t9 := Try.underlying9
  a9 := Try.isAgg9
  z9 := Try.sizeOf9
  v9 := Try.zeroValue9 }
def sortS_ren : Go.Shelf.Ren := ⟨fun | 6 => 38 | 15 => 47 | 14 => 46 | 28 => 64 | 29 => 65 | 20 => 56 | 21 => 57 | 22 => 58 | 23 => 59 | 24 => 60 | 25 => 61 | 26 => 62 | 27 => 63 | 46 => 73 | 47 => 74 | 48 => 75 | 49 => 76 | 50 => 77 | 57 => 82 | n => n, fun | 22 => 38 | 24 => 9 | 25 => 82 | 3 => 3 | 39 => 86 | 0 => 0 | 53 => 89 | 55 => 87 | 4 => 4 | 46 => 101 | 45 => 100 | 50 => 29 | 5 => 5 | 9 => 9 | 66 => 114 | 70 => 118 | 76 => 122 | 77 => 123 | n => n, fun | n => n⟩
theorem sortS : Go.Proofs.SlLaysF.n6 Try.prog sortS_ren := {
  mixed := by kernel_rfl
  f6 := ⟨Try.f38.name, by decide, Try.func38.trans (congrArg some (by kernel_rfl))⟩
  f14 := ⟨Try.f46.name, by decide, Try.func46.trans (congrArg some (by kernel_rfl))⟩
  f15 := Try.func47.trans (congrArg some (by kernel_rfl))
  f20 := ⟨Try.f56.name, by decide, Try.func56.trans (congrArg some (by kernel_rfl))⟩
  f21 := ⟨Try.f57.name, by decide, Try.func57.trans (congrArg some (by kernel_rfl))⟩
  f22 := ⟨Try.f58.name, by decide, Try.func58.trans (congrArg some (by kernel_rfl))⟩
  f23 := ⟨Try.f59.name, by decide, Try.func59.trans (congrArg some (by kernel_rfl))⟩
  f24 := ⟨Try.f60.name, by decide, Try.func60.trans (congrArg some (by kernel_rfl))⟩
  f25 := ⟨Try.f61.name, by decide, Try.func61.trans (congrArg some (by kernel_rfl))⟩
  f26 := ⟨Try.f62.name, by decide, Try.func62.trans (congrArg some (by kernel_rfl))⟩
  f27 := ⟨Try.f63.name, by decide, Try.func63.trans (congrArg some (by kernel_rfl))⟩
  f28 := Try.func64.trans (congrArg some (by kernel_rfl))
  f29 := Try.func65.trans (congrArg some (by kernel_rfl))
  f46 := ⟨Try.f73.name, by decide, Try.func73.trans (congrArg some (by kernel_rfl))⟩
  f47 := Try.func74.trans (congrArg some (by kernel_rfl))
  f48 := Try.func75.trans (congrArg some (by kernel_rfl))
  f49 := ⟨Try.f76.name, by decide, Try.func76.trans (congrArg some (by kernel_rfl))⟩
  f50 := ⟨Try.f77.name, by decide, Try.func77.trans (congrArg some (by kernel_rfl))⟩
  f57 := ⟨Try.f82.name, by decide, Try.func82.trans (congrArg some (by kernel_rfl))⟩
  t0 := Try.underlying0
  a0 := Try.isAgg0
  z0 := Try.sizeOf0
  v0 := Try.zeroValue0
  t3 := Try.underlying3
  a3 := Try.isAgg3
  z3 := Try.sizeOf3
  v3 := Try.zeroValue3
  t4 := Try.underlying4
  a4 := Try.isAgg4
  z4 := Try.sizeOf4
  v4 := Try.zeroValue4
  t5 := Try.underlying5
  a5 := Try.isAgg5
  z5 := Try.sizeOf5
  v5 := Try.zeroValue5
  t9 := Try.underlying9
  a9 := Try.isAgg9
  z9 := Try.sizeOf9
  v9 := Try.zeroValue9
  t22 := Try.underlying38
  a22 := Try.isAgg38
  z22 := Try.sizeOf38
  v22 := Try.zeroValue38
  a24 := Try.isAgg9
  z24 := Try.sizeOf9
  t25 := Try.underlying82
  a25 := Try.isAgg82
  z25 := Try.sizeOf82
  v25 := Try.zeroValue82
  t39 := Try.underlying86
  a39 := Try.isAgg86
  z39 := Try.sizeOf86
  v39 := Try.zeroValue86
  t45 := Try.underlying100
  a45 := Try.isAgg100
  z45 := Try.sizeOf100
  v45 := Try.zeroValue100
  t46 := Try.underlying101
  a46 := Try.isAgg101
  z46 := Try.sizeOf101
  v46 := Try.zeroValue101
  t50 := Try.underlying29
  a50 := Try.isAgg29
  z50 := Try.sizeOf29
  v50 := Try.zeroValue29
  t53 := Try.underlying89
  a53 := Try.isAgg89
  z53 := Try.sizeOf89
  v53 := Try.zeroValue89
  t55 := Try.underlying87
  a55 := Try.isAgg87
  z55 := Try.sizeOf87
  v55 := Try.zeroValue87
  t66 := Try.underlying114
  a66 := Try.isAgg114
  z66 := Try.sizeOf114
  v66 := Try.zeroValue114
  t70 := Try.underlying118
  a70 := Try.isAgg118
  z70 := Try.sizeOf118
  v70 := Try.zeroValue118
  t76 := Try.underlying122
  a76 := Try.isAgg122
  z76 := Try.sizeOf122
  v76 := Try.zeroValue122
  t77 := Try.underlying123
  a77 := Try.isAgg123
  z77 := Try.sizeOf123
  v77 := Try.zeroValue123 }
def sortS0_ren : Go.Shelf.Ren := ⟨fun | 6 => 38 | 15 => 47 | 14 => 46 | 28 => 64 | 29 => 65 | 20 => 56 | 21 => 57 | 22 => 58 | 23 => 59 | 24 => 60 | 25 => 61 | 26 => 62 | 27 => 63 | 46 => 73 | 47 => 74 | 48 => 75 | 49 => 76 | 50 => 77 | 57 => 82 | n => n, fun | 22 => 38 | 24 => 9 | 25 => 82 | 3 => 3 | 39 => 86 | 0 => 0 | 53 => 89 | 55 => 87 | 4 => 4 | 46 => 101 | 45 => 100 | 50 => 29 | 5 => 5 | 9 => 9 | 66 => 114 | 70 => 118 | 76 => 122 | 77 => 123 | n => n, fun | n => n⟩
theorem sortS0 : Go.Proofs.SlLaysF0.n6 Try.prog sortS0_ren := {
  mixed := by kernel_rfl
  f6 := ⟨Try.f38.name, by decide, Try.func38.trans (congrArg some (by kernel_rfl))⟩
  f14 := ⟨Try.f46.name, by decide, Try.func46.trans (congrArg some (by kernel_rfl))⟩
  f15 := Try.func47.trans (congrArg some (by kernel_rfl))
  f20 := ⟨Try.f56.name, by decide, Try.func56.trans (congrArg some (by kernel_rfl))⟩
  f21 := ⟨Try.f57.name, by decide, Try.func57.trans (congrArg some (by kernel_rfl))⟩
  f22 := ⟨Try.f58.name, by decide, Try.func58.trans (congrArg some (by kernel_rfl))⟩
  f23 := ⟨Try.f59.name, by decide, Try.func59.trans (congrArg some (by kernel_rfl))⟩
  f24 := ⟨Try.f60.name, by decide, Try.func60.trans (congrArg some (by kernel_rfl))⟩
  f25 := ⟨Try.f61.name, by decide, Try.func61.trans (congrArg some (by kernel_rfl))⟩
  f26 := ⟨Try.f62.name, by decide, Try.func62.trans (congrArg some (by kernel_rfl))⟩
  f27 := ⟨Try.f63.name, by decide, Try.func63.trans (congrArg some (by kernel_rfl))⟩
  f28 := Try.func64.trans (congrArg some (by kernel_rfl))
  f29 := Try.func65.trans (congrArg some (by kernel_rfl))
  f46 := ⟨Try.f73.name, by decide, Try.func73.trans (congrArg some (by kernel_rfl))⟩
  f47 := Try.func74.trans (congrArg some (by kernel_rfl))
  f48 := Try.func75.trans (congrArg some (by kernel_rfl))
  f49 := ⟨Try.f76.name, by decide, Try.func76.trans (congrArg some (by kernel_rfl))⟩
  f50 := ⟨Try.f77.name, by decide, Try.func77.trans (congrArg some (by kernel_rfl))⟩
  f57 := ⟨Try.f82.name, by decide, Try.func82.trans (congrArg some (by kernel_rfl))⟩
  t0 := Try.underlying0
  a0 := Try.isAgg0
  z0 := Try.sizeOf0
  v0 := Try.zeroValue0
  t3 := Try.underlying3
  a3 := Try.isAgg3
  z3 := Try.sizeOf3
  v3 := Try.zeroValue3
  t4 := Try.underlying4
  a4 := Try.isAgg4
  z4 := Try.sizeOf4
  v4 := Try.zeroValue4
  t5 := Try.underlying5
  a5 := Try.isAgg5
  z5 := Try.sizeOf5
  v5 := Try.zeroValue5
  t9 := Try.underlying9
  a9 := Try.isAgg9
  z9 := Try.sizeOf9
  v9 := Try.zeroValue9
  t22 := Try.underlying38
  a22 := Try.isAgg38
  z22 := Try.sizeOf38
  v22 := Try.zeroValue38
  t25 := Try.underlying82
  a25 := Try.isAgg82
  z25 := Try.sizeOf82
  v25 := Try.zeroValue82
  t39 := Try.underlying86
  a39 := Try.isAgg86
  z39 := Try.sizeOf86
  v39 := Try.zeroValue86
  t45 := Try.underlying100
  a45 := Try.isAgg100
  z45 := Try.sizeOf100
  v45 := Try.zeroValue100
  t46 := Try.underlying101
  a46 := Try.isAgg101
  z46 := Try.sizeOf101
  v46 := Try.zeroValue101
  t50 := Try.underlying29
  a50 := Try.isAgg29
  z50 := Try.sizeOf29
  v50 := Try.zeroValue29
  t53 := Try.underlying89
  a53 := Try.isAgg89
  z53 := Try.sizeOf89
  v53 := Try.zeroValue89
  t55 := Try.underlying87
  a55 := Try.isAgg87
  z55 := Try.sizeOf87
  v55 := Try.zeroValue87
  t66 := Try.underlying114
  a66 := Try.isAgg114
  z66 := Try.sizeOf114
  v66 := Try.zeroValue114
  t70 := Try.underlying118
  a70 := Try.isAgg118
  z70 := Try.sizeOf118
  v70 := Try.zeroValue118
  t76 := Try.underlying122
  a76 := Try.isAgg122
  z76 := Try.sizeOf122
  v76 := Try.zeroValue122
  t77 := Try.underlying123
  a77 := Try.isAgg123
  z77 := Try.sizeOf123
  v77 := Try.zeroValue123 }
end Go.Proofs.Ytbeoihjfjkbfhaa
