/-
  RelayMany: a thousand questions may wait, and no more; texts of 4000 bytes are taken, and no longer ones. Nothing is asked.
-/
import Derived.Test.YtbeoihjfjkbfhaaMnP
namespace Go.Proofs.Ytbeoihjfjkbfhaa
set_option linter.unusedVariables false
set_option linter.unusedSimpArgs false
open Go.RowKit
theorem made_zero (n : Nat) (h : n ≤ 5000) (w : World) : (Instr.makeSlice 51 (.int .i64 (n : Int)) (.int .i64 (n : Int))).run Try.prog w = .ok (.slice (some ⟨w.heap.size, 0, none⟩) n n) (w.alloc (.cells (madeCells (Value.int .u8 0).cells (n * 1)) 5)) := by
  obtain ⟨i0, hi, hz0, hz1, hz2⟩ := info_parts info5
  have := run_makeSlice (P := Try.prog) w 51 5 i0 _ Try.underlying51 hi hz0 .i64 .i64 n n (by omega) (by omega) (by rw [hz1]; simp; omega) (by rw [hz2]; omega) (by omega)
  rw [hz1] at this
  simpa using this
theorem made_text (n : Nat) (w : World) : (convert 51 9 (.slice (some ⟨w.heap.size, 0, none⟩) n n)).run Try.prog (w.alloc (.cells (madeCells (Value.int .u8 0).cells (n * 1)) 5)) = .ok (.string (zT n)) (w.alloc (.cells (madeCells (Value.int .u8 0).cells (n * 1)) 5)) := by
  refine run_convert_bytes_arg (P := Try.prog) _ 51 5 Try.underlying51 Try.underlying5 w.heap.size 0 n n (List.replicate n 0) (by simp) (fun i hi => ?_) 9 Try.underlying9
  rw [cell_of_row _ _ _ _ _ _ (alloc_at w _)]
  simp [madeCells, Value.cells, hi, Nat.mod_one]
set_option maxRecDepth 100000 in
set_option maxHeartbeats 8000000 in
theorem many_walk (x y : Int) (hx : 0 ≤ x ∧ x < 256) (hy : 0 ≤ y ∧ y < 256) (w : World) :
    Calls Try.prog 8 #[.int .u8 x, .int .u8 y] w fun e w' => e = .returned (.bool true) ∧ Ext w w' := by
  obtain ⟨m, hm⟩ : ∃ m : Nat, (m : Int) = 1000 + x % 5 := ⟨(1000 + x % 5).toNat, by omega⟩
  obtain ⟨n, hn⟩ : ∃ n : Nat, (n : Int) = 3998 + y % 5 := ⟨(3998 + y % 5).toNat, by omega⟩
  have m0 : 1000 ≤ m := by omega
  have m1 : m ≤ 1004 := by omega
  have n0 : 3998 ≤ n := by omega
  have n1 : n ≤ 4002 := by omega
  go_enter Try.func8, Try.ntmps8
  go_upto_region 3 with (first
    | (go_at_call 11; (with_reducible refine (sanity_any _).mono ?_); rintro e w1 ⟨rfl, hx1⟩)
    | (go_at_call 12; refine (new_x 1 10 _ (okI_small (by decide)) (okI_small (by decide))).mono ?_; rintro e w2 ⟨rfl, hr2, hx2⟩))
  have HM := Lib.hid hm; have HN := Lib.hid hn
  have HX1 := Lib.hid hx1; have HX2 := Lib.hid hx2; have HR2 := Lib.hid hr2
  clear hx1 hx2 hr2 hm hn
  obtain ⟨p, hp⟩ : ∃ p, p = w1.heap.size := ⟨_, rfl⟩
  rw [← hp]
  have HP := Lib.hid hp
  clear hp
  go_wp2_with (fail)
  go_loopw [7] (fun k wr => ∃ i : Nat, k = .int .i64 i ∧ i ≤ m ∧ Hid (RX p wr p (mS i)) ∧ Hid (Ext w1 wr)) (fun k _ => m - (iof k).toNat)
  case atStart => exact ⟨0, rfl, Nat.zero_le _, Lib.hid (HP.out ▸ HR2.out), HX2⟩
  case round =>
    obtain ⟨i, rfl, hi, HRX, HX⟩ := hrel
    by_cases him : i < m
    · have hc1 : (i : Int) < 1000 + x % 5 := by have := HM.out; omega
      have HA := Lib.hid (ask_x HRX.out ⟨(i : Int), tQ⟩ 0 (okI_small (by simp only; omega)) (okI_small (by decide)) _ _ (mS_err i) (mS_step i))
      by_cases h1000 : i < 1000
      · have HA2 := HA.out
        rw [if_pos h1000] at HA2
        have HB := Lib.hid HA2
        have hc2 : ¬ (1000 : Int) ≤ (i : Int) := by omega
        clear HA HA2
        go_wp2_with (go_at_call 20; refine HB.out.mono ?_; rintro e w3 ⟨rfl, hr3, hb3⟩)
        exact ⟨⟨i + 1, by simp, by omega, Lib.hid hr3, Lib.hid (Below.trans HX.out (HP.out ▸ hb3))⟩, by simp [iof]; omega⟩
      · have HA2 := HA.out
        rw [if_neg h1000] at HA2
        have HB := Lib.hid HA2
        have hc2 : (1000 : Int) ≤ (i : Int) := by omega
        clear HA HA2
        go_wp2_with (go_at_call 20; refine HB.out.mono ?_; rintro e w3 ⟨rfl, hr3, hb3⟩)
        exact ⟨⟨i + 1, by simp, by omega, Lib.hid hr3, Lib.hid (Below.trans HX.out (HP.out ▸ hb3))⟩, by simp [iof]; omega⟩
    · obtain rfl : i = m := by omega
      have hc1 : ¬ (i : Int) < 1000 + x % 5 := by have := HM.out; omega
      go_upto_region 14 with (fail)
      rw [show (3998 : Int) + y % 5 = (n : Int) from HN.out.symm]
      have hmk := fun w => made_zero n (by omega) w
      have hcv := fun w => made_text n w
      obtain ⟨R, hR⟩ : ∃ R, R = madeCells (Value.int .u8 0).cells (n * 1) := ⟨_, rfl⟩
      rw [← hR] at hmk hcv
      have HW := Lib.hid (fun w' (h : Ext wr w') => waiting_x (HRX.out.ext h) 1000 (by show (mL i).length = 1000; rw [mL_len]; omega))
      clear hR hc1 him hi HM m0 m1
      go_upto_region 15 with (go_at_call 12; refine (new_x 1 10 _ (okI_small (by decide)) (okI_small (by decide))).mono ?_; rintro e w4 ⟨rfl, hr4, hx4⟩)
      obtain ⟨p2, hp2⟩ : ∃ p2, p2 = wr.heap.size := ⟨_, rfl⟩
      rw [← hp2] at hr4 ⊢
      have HP2 := Lib.hid hp2; have HR4 : Hid (RX p2 w4 p2 z0) := Lib.hid hr4; have HX4 := Lib.hid hx4
      clear hp2 hr4 hx4
      by_cases hlong : 4000 < n
      · have hl2 : (4000 : Int) < (n : Int) := by omega
        have HL := Lib.hid (z_long hlong)
        have HA1 := Lib.hid (fun w' (h : RX p2 w' p2 z0) => ask_x h ⟨1, zT n⟩ 0 (okI_small (by simp only; decide)) (okI_small (by decide)) _ _ HL.out.1 HL.out.2)
        clear hlong HL
        go_wp2_with (first
          | (go_at_call 20; refine (HA1.out _ (HR4.out.ext (Ext.alloc (Ext.refl _) _))).mono ?_; rintro e w5 ⟨rfl, hr5, hb5⟩)
          | (go_at_call 20; refine (HA1.out _ (hr5.ext (Ext.alloc (Ext.refl _) _))).mono ?_; rintro e w6 ⟨rfl, hr6, hb6⟩; have hXF : Hid (Ext wr w6) := Lib.hid (Below.trans (Below.trans (Ext.alloc HX4.out _) (HP2.out ▸ hb5)) (HP2.out ▸ Below.trans (Below.alloc (Below.refl _ _) hr5.1 _) hb6)))
          | (go_at_call 22; refine (HW.out _ hXF.out).mono ?_; rintro e w7 ⟨rfl, hw7⟩; have h9 := hw7.symm; clear hw7; subst h9))
        go_ret
        exact ⟨rfl, HX1.out.trans (HX.out.trans hXF.out)⟩
      · have hl2 : ¬ (4000 : Int) < (n : Int) := by omega
        have HL := Lib.hid (z_ok (Nat.le_of_not_lt hlong) (by omega))
        have HL2 := Lib.hid (z_twice (Nat.le_of_not_lt hlong) (by omega))
        have HA1 := Lib.hid (fun w' (h : RX p2 w' p2 z0) => ask_x h ⟨1, zT n⟩ 0 (okI_small (by simp only; decide)) (okI_small (by decide)) _ _ HL.out.1 HL.out.2)
        have HA2 := Lib.hid (fun w' (h : RX p2 w' p2 (z1 n)) => ask_x h ⟨1, zT n⟩ 0 (okI_small (by simp only; decide)) (okI_small (by decide)) _ _ HL2.out.1 HL2.out.2)
        clear hlong HL HL2
        go_wp2_with (first
          | (go_at_call 20; refine (HA1.out _ (HR4.out.ext (Ext.alloc (Ext.refl _) _))).mono ?_; rintro e w5 ⟨rfl, hr5, hb5⟩)
          | (go_at_call 20; refine (HA2.out _ (hr5.ext (Ext.alloc (Ext.refl _) _))).mono ?_; rintro e w6 ⟨rfl, hr6, hb6⟩; have hXF : Hid (Ext wr w6) := Lib.hid (Below.trans (Below.trans (Ext.alloc HX4.out _) (HP2.out ▸ hb5)) (HP2.out ▸ Below.trans (Below.alloc (Below.refl _ _) hr5.1 _) hb6)))
          | (go_at_call 22; refine (HW.out _ hXF.out).mono ?_; rintro e w7 ⟨rfl, hw7⟩; have h9 := hw7.symm; clear hw7; subst h9))
        go_ret
        exact ⟨by show Ending.returned (.bool (!decide ((4000 : Int) < (n : Int)))) = _; rw [decide_eq_false (by omega)]; rfl, HX1.out.trans (HX.out.trans hXF.out)⟩
end Go.Proofs.Ytbeoihjfjkbfhaa
