/-
  InterestNear walked. Conditions: the arguments are bytes.
-/
import Derived.Test.YtlekdhhgjhakgaaIyH
namespace Go.Proofs.Ytlekdhhgjhakgaa
set_option linter.unusedVariables false
set_option linter.unusedSimpArgs false
open Go.RowKit
set_option maxRecDepth 100000 in
set_option maxHeartbeats 8000000 in
theorem near_walk (x y z : Int) (hx : 0 ≤ x ∧ x ≤ 255) (hy : 0 ≤ y ∧ y ≤ 255) (hz : 0 ≤ z ∧ z ≤ 255) (W : World) :
    Calls Try.prog 4 #[.int .u8 x, .int .u8 y, .int .u8 z] W fun e W' => e = .returned (.bool true) ∧ Ext W W' := by
  obtain ⟨n, hn⟩ : ∃ n : Nat, x % 6 = (n : Int) := ⟨(x % 6).toNat, by omega⟩
  have hn5 : n ≤ 5 := by omega
  have m1 : x.tmod 6 = (n : Int) := by rw [Int.tmod_eq_emod_of_nonneg hx.1]; exact hn
  clear hn
  go_enter Try.func4, Try.ntmps4
  go_upto_region 2 with (go_at_call 11; (with_reducible refine (sanity_any _).mono ?_); rintro e w1 ⟨rfl, hx1⟩)
  have hB1 := BS.zero w1 (w0 := w1) (Ext.refl _)
  obtain ⟨D, hD⟩ : ∃ D, D = w1.heap.size := ⟨_, rfl⟩
  have HX1 := Lib.hid hx1
  clear hx1
  go_upto_region 3 with (fail)
  rw [← hD] at hB1 ⊢
  clear hD
  generalize w1.alloc (.cells #[.slice none 0 0, .int .i64 0, .slice none 0 0, .slice none 0 0, .int .i64 0, .int .i64 0] 28) = W1 at *
  have HB1 := Lib.hid hB1
  clear hB1
  go_upto_region 5 with (fail)
  obtain ⟨t, ht⟩ : ∃ t : Nat → Bool, ∀ i, t i = (bits BinOp.and IntKind.u8 (z / 2 ^ i) 1 == 1) := ⟨fun i => (bits BinOp.and IntKind.u8 (z / 2 ^ i) 1 == 1), fun _ => rfl⟩
  have HT := Lib.hid ht
  clear ht
  go_loopw [10] (fun iv wr => ∃ (i : Nat) (ov : Value), iv = .int .i64 i ∧ i ≤ n ∧ Hid (BS w1 D wr (.slice none 0 0) (.int .i64 0) (.slice none 0 0) ov (.int .i64 0) (.int .i64 0) ⟨[], [], nearR t i⟩)) (fun iv _ => n - (iof iv).toNat)
  case atStart => exact ⟨0, _, rfl, by omega, HB1⟩
  case round =>
    obtain ⟨i, ov, rfl, hi, HZ⟩ := hrel
    clear HB1
    obtain ⟨oA, oc, rfl⟩ := row_formG HZ.out.os.rs
    have hvl : Value.slice oA (⟨[], [], nearR t i⟩ : Su).rs.length oc = Value.slice oA i oc := by rw [show (⟨[], [], nearR t i⟩ : Su).rs.length = i from nearR_len t i]
    rw [hvl] at HZ
    clear hvl
    obtain ⟨-, -, c2, c3, -⟩ := HZ.out.c
    have l0 := Rg.lt_of_heap HZ.out.at_
    by_cases hil : i < n
    · cases hb : (bits BinOp.and IntKind.u8 (z / 2 ^ i) 1 == 1)
      · skip
        have HSR : Hid (stepR t i = ((1 + (i : Int)), (2 + (i : Int)))) := Lib.hid (by unfold stepR; rw [HT.out, hb]; (simp [Int.add_comm]))
        obtain ⟨w2, hw2⟩ : ∃ w2, w2 = (wr.alloc (Obj.cells #[Value.int IntKind.i64 (1 + (i : Int)), Value.int IntKind.i64 (2 + (i : Int))] 36)).alloc (Obj.cells #[Value.int IntKind.i64 (1 + (i : Int)), Value.int IntKind.i64 (2 + (i : Int))] 36) := ⟨_, rfl⟩
        have hxa : Ext wr w2 := hw2 ▸ Ext.alloc (Ext.alloc (Ext.refl _) _) _
        have hat2 : w2.heap[wr.heap.size + 1]? = some (.cells #[Value.int IntKind.i64 (1 + (i : Int)), Value.int IntKind.i64 (2 + (i : Int))] 36) := by
          have h9 := alloc_at (wr.alloc (Obj.cells #[Value.int IntKind.i64 (1 + (i : Int)), Value.int IntKind.i64 (2 + (i : Int))] 36)) (Obj.cells #[Value.int IntKind.i64 (1 + (i : Int)), Value.int IntKind.i64 (2 + (i : Int))] 36)
          rw [hw2]
          simpa using h9
        have hown := own_lit (B := wr.heap.size) (n := 1) (sz := 2) (xs := [].append ([((1 + (i : Int)), (2 + (i : Int)))].flatMap reC)) (Nat.le_succ _) hat2 rfl (by decide)
        have hsrc : (⟨[], [], nearR t i⟩ : Su).rs = [] ∨ ∃ b off, oA = some ⟨b, off, none⟩ ∧ ∀ j u, ((⟨[], [], nearR t i⟩ : Su).rs.flatMap reC)[j]? = some u → w2.cell? ⟨b, off + j, none⟩ = some u := by
          have h9 := row_ext HZ.out.os.rs hxa
          have hvl : Value.slice oA (⟨[], [], nearR t i⟩ : Su).rs.length oc = Value.slice oA i oc := by rw [show (⟨[], [], nearR t i⟩ : Su).rs.length = i from nearR_len t i]
          rw [← hvl] at h9
          exact (own_src h9).imp List.length_eq_zero_iff.1 id
        have hsz2 : wr.heap.size ≤ w2.heap.size := hxa.size
        have HZ2 := Lib.hid (HZ.out.ext hxa)
        have HXA := Lib.hid hxa
        have hln : 1 + (nearR t i).length ≤ 1000000 := by rw [nearR_len]; omega
        have HLN : Hid ((nearR t i).length = i) := Lib.hid (nearR_len t i)
        clear hxa hat2
        go_upto_region 11 with (at_builtin; rw [← hw2]; (refine append_rows (cs := reC) (z := .agg #[.int .i64 0, .int .i64 0]) 24 36 16 Try.underlying24 (by kernel_rfl) (by rfl) (by decide) (by decide) rfl (.tmp 38) (.tmp 40) rfl wr.heap.size (.slice (some ⟨wr.heap.size + 1, 0, none⟩) 1 1) [((1 + (i : Int)), (2 + (i : Int)))] (by rfl) hown (fun _ => ⟨rfl, by simp [reC, Value.oneCell']⟩) oA oc (nearR t i) (by rw [HLN.out]; rfl) hsrc hln hsz2 ?_; intro v7 w7 hr7 hg7; obtain ⟨A7, n7, rfl⟩ := row_formG hr7; have HR7 := Lib.hid hr7; have HX7 : Hid (Ext wr w7) := Lib.hid (row_grown HXA.out hown (Nat.le_refl _) hg7); have HZ7 := Lib.hid (HZ.out.ext HX7.out); have f7 : w7.frozen? ⟨D, 3, none⟩ = false := tab_frozen HZ7.out.at_; obtain ⟨-, -, -, c7, -⟩ := HZ7.out.c; clear hr7 hg7))
        have HN := Lib.hid (HZ7.out.putR (p := nearR t (i + 1)) (by unfold nearR; rw [HSR.out]; exact row_mono HR7.out HZ.out.low.size) (near_okR t (i + 1) (by omega)))
        rw [show ([((1 + (i : Int)), (2 + (i : Int)))] ++ nearR t i).length = (nearR t i).length + 1 from rfl] at HN
        clear HR7 hsrc hown HZ2 f7 c7 HX7 HZ7 HXA hw2 hsz2 hln
        exact ⟨⟨i + 1, by omega, by omega, _, HN⟩, by omega⟩
      · skip
        have HSR : Hid (stepR t i = ((2 + (i : Int)), (1 + (i : Int)))) := Lib.hid (by unfold stepR; rw [HT.out, hb]; (simp [Int.add_comm]))
        obtain ⟨w2, hw2⟩ : ∃ w2, w2 = (wr.alloc (Obj.cells #[Value.int IntKind.i64 (2 + (i : Int)), Value.int IntKind.i64 (1 + (i : Int))] 36)).alloc (Obj.cells #[Value.int IntKind.i64 (2 + (i : Int)), Value.int IntKind.i64 (1 + (i : Int))] 36) := ⟨_, rfl⟩
        have hxa : Ext wr w2 := hw2 ▸ Ext.alloc (Ext.alloc (Ext.refl _) _) _
        have hat2 : w2.heap[wr.heap.size + 1]? = some (.cells #[Value.int IntKind.i64 (2 + (i : Int)), Value.int IntKind.i64 (1 + (i : Int))] 36) := by
          have h9 := alloc_at (wr.alloc (Obj.cells #[Value.int IntKind.i64 (2 + (i : Int)), Value.int IntKind.i64 (1 + (i : Int))] 36)) (Obj.cells #[Value.int IntKind.i64 (2 + (i : Int)), Value.int IntKind.i64 (1 + (i : Int))] 36)
          rw [hw2]
          simpa using h9
        have hown := own_lit (B := wr.heap.size) (n := 1) (sz := 2) (xs := [].append ([((2 + (i : Int)), (1 + (i : Int)))].flatMap reC)) (Nat.le_succ _) hat2 rfl (by decide)
        have hsrc : (⟨[], [], nearR t i⟩ : Su).rs = [] ∨ ∃ b off, oA = some ⟨b, off, none⟩ ∧ ∀ j u, ((⟨[], [], nearR t i⟩ : Su).rs.flatMap reC)[j]? = some u → w2.cell? ⟨b, off + j, none⟩ = some u := by
          have h9 := row_ext HZ.out.os.rs hxa
          have hvl : Value.slice oA (⟨[], [], nearR t i⟩ : Su).rs.length oc = Value.slice oA i oc := by rw [show (⟨[], [], nearR t i⟩ : Su).rs.length = i from nearR_len t i]
          rw [← hvl] at h9
          exact (own_src h9).imp List.length_eq_zero_iff.1 id
        have hsz2 : wr.heap.size ≤ w2.heap.size := hxa.size
        have HZ2 := Lib.hid (HZ.out.ext hxa)
        have HXA := Lib.hid hxa
        have hln : 1 + (nearR t i).length ≤ 1000000 := by rw [nearR_len]; omega
        have HLN : Hid ((nearR t i).length = i) := Lib.hid (nearR_len t i)
        clear hxa hat2
        go_upto_region 11 with (at_builtin; rw [← hw2]; (refine append_rows (cs := reC) (z := .agg #[.int .i64 0, .int .i64 0]) 24 36 16 Try.underlying24 (by kernel_rfl) (by rfl) (by decide) (by decide) rfl (.tmp 38) (.tmp 40) rfl wr.heap.size (.slice (some ⟨wr.heap.size + 1, 0, none⟩) 1 1) [((2 + (i : Int)), (1 + (i : Int)))] (by rfl) hown (fun _ => ⟨rfl, by simp [reC, Value.oneCell']⟩) oA oc (nearR t i) (by rw [HLN.out]; rfl) hsrc hln hsz2 ?_; intro v7 w7 hr7 hg7; obtain ⟨A7, n7, rfl⟩ := row_formG hr7; have HR7 := Lib.hid hr7; have HX7 : Hid (Ext wr w7) := Lib.hid (row_grown HXA.out hown (Nat.le_refl _) hg7); have HZ7 := Lib.hid (HZ.out.ext HX7.out); have f7 : w7.frozen? ⟨D, 3, none⟩ = false := tab_frozen HZ7.out.at_; obtain ⟨-, -, -, c7, -⟩ := HZ7.out.c; clear hr7 hg7))
        have HN := Lib.hid (HZ7.out.putR (p := nearR t (i + 1)) (by unfold nearR; rw [HSR.out]; exact row_mono HR7.out HZ.out.low.size) (near_okR t (i + 1) (by omega)))
        rw [show ([((2 + (i : Int)), (1 + (i : Int)))] ++ nearR t i).length = (nearR t i).length + 1 from rfl] at HN
        clear HR7 hsrc hown HZ2 f7 c7 HX7 HZ7 HXA hw2 hsz2 hln
        exact ⟨⟨i + 1, by omega, by omega, _, HN⟩, by omega⟩
    · obtain rfl : i = n := by omega
      have HPC := Lib.hid (near_facts t i y hn5)
      have hok := near_ok t i y hn5 hy
      have hf2 := tab_frozen (o := 2) HZ.out.at_
      have hxa : Ext wr (wr.alloc (.cells #[.int .i64 (1 + (i : Int)), .int .i64 99, .int .i64 y] 33)) := Ext.alloc (Ext.refl _) _
      have HZA := Lib.hid (HZ.out.ext hxa)
      have f2 : (wr.alloc (.cells #[.int .i64 (1 + (i : Int)), .int .i64 99, .int .i64 y] 33)).frozen? ⟨D, 2, none⟩ = false := tab_frozen HZA.out.at_
      go_upto_region 12 with (fail)
      have HN := Lib.hid (HZA.out.putH (p := [⟨1 + (i : Int), 99, y⟩]) (own_lit (B := w1.heap.size) (n := 1) (sz := 3) HZ.out.low.size (alloc_at wr (.cells #[.int .i64 (1 + (i : Int)), .int .i64 99, .int .i64 y] 33)) rfl (by decide)) (by rw [Int.add_comm]; exact hok))
      rw [← alloc_setCell _ _ _ _ _ l0] at HN
      obtain ⟨wn, hwn⟩ : ∃ wn, wn = (wr.setCell ⟨D, 2, none⟩ (.slice (some ⟨wr.heap.size, 0, none⟩) 1 1)).alloc (.cells #[.int .i64 (1 + (i : Int)), .int .i64 99, .int .i64 y] 33) := ⟨_, rfl⟩
      rw [← hwn] at HN ⊢
      clear HZ HZA c2 c3 l0 hxa f2 hf2 hwn hok
      obtain ⟨v2, hv2⟩ : ∃ v2, v2 = Value.slice (some ⟨wr.heap.size, 0, none⟩) 1 1 := ⟨_, rfl⟩
      obtain ⟨v3, hv3⟩ : ∃ v3, v3 = Value.slice oA i oc := ⟨_, rfl⟩
      rw [← hv2, ← hv3] at HN
      clear hv2 hv3
      have HSU : Hid (SuV wn (.slice none 0 0) (.int .i64 0) v2 v3 (.int .i64 0) (.int .i64 0) (nearS t i y)) := Lib.hid (by
        have h9 := HN.out.os.su
        rw [Int.add_comm] at h9
        exact h9)
      have HXN : Hid (Ext W wn) := Lib.hid (HX1.out.trans HN.out.low)
      have HSS : Hid (∀ wz, Ext wn wz → wz.cell? ⟨D, 0, none⟩ = some (.slice none 0 0) ∧ wz.cell? ⟨D, 1, none⟩ = some (.int .i64 0) ∧ wz.cell? ⟨D, 2, none⟩ = some v2 ∧ wz.cell? ⟨D, 3, none⟩ = some v3 ∧ wz.cell? ⟨D, 4, none⟩ = some (.int .i64 0) ∧ wz.cell? ⟨D, 5, none⟩ = some (.int .i64 0)) := Lib.hid fun wz hz => (HN.out.ext hz).c
      have HP1 : Hid (∀ wz, Ext wn wz → Calls Try.prog 13 #[.agg #[.slice none 0 0, .int .i64 0, v2, v3, .int .i64 0, .int .i64 0], .int .i64 1, .int .i64 99] wz fun e w' => e = .returned (.int .i64 (nearW i y)) ∧ Ext wz w') := Lib.hid fun wz hz => by
        have h9 := Parts_any _ _ _ _ _ _ (nearS t i y) 1 99 wz (HSU.out.ext hz) (okI_small (by decide))
        rw [HPC.out.1] at h9
        exact h9
      have HC1 : Hid (∀ wz, Ext wn wz → Calls Try.prog 15 #[.agg #[.slice none 0 0, .int .i64 0, v2, v3, .int .i64 0, .int .i64 0], .int .i64 1, .int .i64 99] wz fun e w' => e = .returned (.bool (decide (5 ≤ nearW i y))) ∧ Ext wz w') := Lib.hid fun wz hz => by
        have h9 := Conflict_any _ _ _ _ _ _ (nearS t i y) 1 99 wz (HSU.out.ext hz) (okI_small (by decide)) (okI_small (by decide))
        rw [HPC.out.2.1] at h9
        exact h9
      have HC2 : Hid (∀ wz, Ext wn wz → Calls Try.prog 15 #[.agg #[.slice none 0 0, .int .i64 0, v2, v3, .int .i64 0, .int .i64 0], .int .i64 1, .int .i64 (1 + (i : Int))] wz fun e w' => e = .returned (.bool (decide (i ≤ 2))) ∧ Ext wz w') := Lib.hid fun wz hz => by
        have h9 := Conflict_any _ _ _ _ _ _ (nearS t i y) 1 ((i : Int) + 1) wz (HSU.out.ext hz) (okI_small (by decide)) (okI_small ⟨by omega, by omega⟩)
        rw [HPC.out.2.2.1] at h9
        rw [Int.add_comm]
        exact h9
      have HC3 : Hid (∀ wz, Ext wn wz → Calls Try.prog 15 #[.agg #[.slice none 0 0, .int .i64 0, v2, v3, .int .i64 0, .int .i64 0], .int .i64 (1 + (i : Int)), .int .i64 1] wz fun e w' => e = .returned (.bool (decide (i ≤ 2))) ∧ Ext wz w') := Lib.hid fun wz hz => by
        have h9 := Conflict_any _ _ _ _ _ _ (nearS t i y) ((i : Int) + 1) 1 wz (HSU.out.ext hz) (okI_small ⟨by omega, by omega⟩) (okI_small (by decide))
        rw [HPC.out.2.2.2] at h9
        rw [Int.add_comm]
        exact h9
      obtain ⟨s0, s1, s2, s3, s4, s5⟩ := HSS.out wn (Ext.refl _)
      clear HPC HN HSU HX1
      by_cases h2 : (i : Int) ≤ 2
      · by_cases h3 : (1 : Int) ≤ y
        · by_cases h4 : y ≤ 100
          · have HW : Hid (nearW i y = y) := Lib.hid (if_pos ⟨by omega, h3, h4⟩)
            rw [HW.out] at HP1 HC1
            go_upto_region 15 with (fail)
            go_wp2_with (first
                | (go_at_call 13; (with_reducible refine (HP1.out _ (by with_reducible repeat (first | exact Ext.refl _ | assumption | apply Ext.drewN | apply Ext.drew | apply Ext.alloc | (refine Ext.setCell ?_ (by simp <;> omega) _) | (refine Ext.trans ?_ (by assumption))))).mono ?_); rintro e w2 ⟨rfl, hx2⟩; obtain ⟨s20, s21, s22, s23, s24, s25⟩ := HSS.out w2 (by with_reducible repeat (first | exact Ext.refl _ | assumption | apply Ext.drewN | apply Ext.drew | apply Ext.alloc | (refine Ext.setCell ?_ (by simp <;> omega) _) | (refine Ext.trans ?_ (by assumption)))))
                | (go_at_call 15; (with_reducible refine (HC1.out _ (by with_reducible repeat (first | exact Ext.refl _ | assumption | apply Ext.drewN | apply Ext.drew | apply Ext.alloc | (refine Ext.setCell ?_ (by simp <;> omega) _) | (refine Ext.trans ?_ (by assumption))))).mono ?_); rintro e w3 ⟨rfl, hx3⟩; obtain ⟨s30, s31, s32, s33, s34, s35⟩ := HSS.out w3 (by with_reducible repeat (first | exact Ext.refl _ | assumption | apply Ext.drewN | apply Ext.drew | apply Ext.alloc | (refine Ext.setCell ?_ (by simp <;> omega) _) | (refine Ext.trans ?_ (by assumption)))))
                | (go_at_call 15; (with_reducible refine (HC2.out _ (by with_reducible repeat (first | exact Ext.refl _ | assumption | apply Ext.drewN | apply Ext.drew | apply Ext.alloc | (refine Ext.setCell ?_ (by simp <;> omega) _) | (refine Ext.trans ?_ (by assumption))))).mono ?_); rintro e w4 ⟨rfl, hx4⟩; obtain ⟨s40, s41, s42, s43, s44, s45⟩ := HSS.out w4 (by with_reducible repeat (first | exact Ext.refl _ | assumption | apply Ext.drewN | apply Ext.drew | apply Ext.alloc | (refine Ext.setCell ?_ (by simp <;> omega) _) | (refine Ext.trans ?_ (by assumption)))))
                | (go_at_call 15; (with_reducible refine (HC3.out _ (by with_reducible repeat (first | exact Ext.refl _ | assumption | apply Ext.drewN | apply Ext.drew | apply Ext.alloc | (refine Ext.setCell ?_ (by simp <;> omega) _) | (refine Ext.trans ?_ (by assumption))))).mono ?_); rintro e w5 ⟨rfl, hx5⟩))
            go_ret
            exact ⟨rfl, HXN.out.trans (by with_reducible repeat (first | exact Ext.refl _ | assumption | apply Ext.drewN | apply Ext.drew | apply Ext.alloc | (refine Ext.setCell ?_ (by simp <;> omega) _) | (refine Ext.trans ?_ (by assumption))))⟩
          · have HW : Hid (nearW i y = 0) := Lib.hid (if_neg (by omega))
            rw [HW.out] at HP1 HC1
            go_upto_region 15 with (fail)
            go_wp2_with (first
                | (go_at_call 13; (with_reducible refine (HP1.out _ (by with_reducible repeat (first | exact Ext.refl _ | assumption | apply Ext.drewN | apply Ext.drew | apply Ext.alloc | (refine Ext.setCell ?_ (by simp <;> omega) _) | (refine Ext.trans ?_ (by assumption))))).mono ?_); rintro e w2 ⟨rfl, hx2⟩; obtain ⟨s20, s21, s22, s23, s24, s25⟩ := HSS.out w2 (by with_reducible repeat (first | exact Ext.refl _ | assumption | apply Ext.drewN | apply Ext.drew | apply Ext.alloc | (refine Ext.setCell ?_ (by simp <;> omega) _) | (refine Ext.trans ?_ (by assumption)))))
                | (go_at_call 15; (with_reducible refine (HC1.out _ (by with_reducible repeat (first | exact Ext.refl _ | assumption | apply Ext.drewN | apply Ext.drew | apply Ext.alloc | (refine Ext.setCell ?_ (by simp <;> omega) _) | (refine Ext.trans ?_ (by assumption))))).mono ?_); rintro e w3 ⟨rfl, hx3⟩; obtain ⟨s30, s31, s32, s33, s34, s35⟩ := HSS.out w3 (by with_reducible repeat (first | exact Ext.refl _ | assumption | apply Ext.drewN | apply Ext.drew | apply Ext.alloc | (refine Ext.setCell ?_ (by simp <;> omega) _) | (refine Ext.trans ?_ (by assumption)))))
                | (go_at_call 15; (with_reducible refine (HC2.out _ (by with_reducible repeat (first | exact Ext.refl _ | assumption | apply Ext.drewN | apply Ext.drew | apply Ext.alloc | (refine Ext.setCell ?_ (by simp <;> omega) _) | (refine Ext.trans ?_ (by assumption))))).mono ?_); rintro e w4 ⟨rfl, hx4⟩; obtain ⟨s40, s41, s42, s43, s44, s45⟩ := HSS.out w4 (by with_reducible repeat (first | exact Ext.refl _ | assumption | apply Ext.drewN | apply Ext.drew | apply Ext.alloc | (refine Ext.setCell ?_ (by simp <;> omega) _) | (refine Ext.trans ?_ (by assumption)))))
                | (go_at_call 15; (with_reducible refine (HC3.out _ (by with_reducible repeat (first | exact Ext.refl _ | assumption | apply Ext.drewN | apply Ext.drew | apply Ext.alloc | (refine Ext.setCell ?_ (by simp <;> omega) _) | (refine Ext.trans ?_ (by assumption))))).mono ?_); rintro e w5 ⟨rfl, hx5⟩))
            go_ret
            exact ⟨rfl, HXN.out.trans (by with_reducible repeat (first | exact Ext.refl _ | assumption | apply Ext.drewN | apply Ext.drew | apply Ext.alloc | (refine Ext.setCell ?_ (by simp <;> omega) _) | (refine Ext.trans ?_ (by assumption))))⟩
        · have HW : Hid (nearW i y = 0) := Lib.hid (if_neg (by omega))
          rw [HW.out] at HP1 HC1
          go_upto_region 15 with (fail)
          go_wp2_with (first
              | (go_at_call 13; (with_reducible refine (HP1.out _ (by with_reducible repeat (first | exact Ext.refl _ | assumption | apply Ext.drewN | apply Ext.drew | apply Ext.alloc | (refine Ext.setCell ?_ (by simp <;> omega) _) | (refine Ext.trans ?_ (by assumption))))).mono ?_); rintro e w2 ⟨rfl, hx2⟩; obtain ⟨s20, s21, s22, s23, s24, s25⟩ := HSS.out w2 (by with_reducible repeat (first | exact Ext.refl _ | assumption | apply Ext.drewN | apply Ext.drew | apply Ext.alloc | (refine Ext.setCell ?_ (by simp <;> omega) _) | (refine Ext.trans ?_ (by assumption)))))
              | (go_at_call 15; (with_reducible refine (HC1.out _ (by with_reducible repeat (first | exact Ext.refl _ | assumption | apply Ext.drewN | apply Ext.drew | apply Ext.alloc | (refine Ext.setCell ?_ (by simp <;> omega) _) | (refine Ext.trans ?_ (by assumption))))).mono ?_); rintro e w3 ⟨rfl, hx3⟩; obtain ⟨s30, s31, s32, s33, s34, s35⟩ := HSS.out w3 (by with_reducible repeat (first | exact Ext.refl _ | assumption | apply Ext.drewN | apply Ext.drew | apply Ext.alloc | (refine Ext.setCell ?_ (by simp <;> omega) _) | (refine Ext.trans ?_ (by assumption)))))
              | (go_at_call 15; (with_reducible refine (HC2.out _ (by with_reducible repeat (first | exact Ext.refl _ | assumption | apply Ext.drewN | apply Ext.drew | apply Ext.alloc | (refine Ext.setCell ?_ (by simp <;> omega) _) | (refine Ext.trans ?_ (by assumption))))).mono ?_); rintro e w4 ⟨rfl, hx4⟩; obtain ⟨s40, s41, s42, s43, s44, s45⟩ := HSS.out w4 (by with_reducible repeat (first | exact Ext.refl _ | assumption | apply Ext.drewN | apply Ext.drew | apply Ext.alloc | (refine Ext.setCell ?_ (by simp <;> omega) _) | (refine Ext.trans ?_ (by assumption)))))
              | (go_at_call 15; (with_reducible refine (HC3.out _ (by with_reducible repeat (first | exact Ext.refl _ | assumption | apply Ext.drewN | apply Ext.drew | apply Ext.alloc | (refine Ext.setCell ?_ (by simp <;> omega) _) | (refine Ext.trans ?_ (by assumption))))).mono ?_); rintro e w5 ⟨rfl, hx5⟩))
          go_ret
          exact ⟨rfl, HXN.out.trans (by with_reducible repeat (first | exact Ext.refl _ | assumption | apply Ext.drewN | apply Ext.drew | apply Ext.alloc | (refine Ext.setCell ?_ (by simp <;> omega) _) | (refine Ext.trans ?_ (by assumption))))⟩
      · have HW : Hid (nearW i y = 0) := Lib.hid (if_neg (by omega))
        rw [HW.out] at HP1 HC1
        go_upto_region 15 with (fail)
        go_wp2_with (first
            | (go_at_call 13; (with_reducible refine (HP1.out _ (by with_reducible repeat (first | exact Ext.refl _ | assumption | apply Ext.drewN | apply Ext.drew | apply Ext.alloc | (refine Ext.setCell ?_ (by simp <;> omega) _) | (refine Ext.trans ?_ (by assumption))))).mono ?_); rintro e w2 ⟨rfl, hx2⟩; obtain ⟨s20, s21, s22, s23, s24, s25⟩ := HSS.out w2 (by with_reducible repeat (first | exact Ext.refl _ | assumption | apply Ext.drewN | apply Ext.drew | apply Ext.alloc | (refine Ext.setCell ?_ (by simp <;> omega) _) | (refine Ext.trans ?_ (by assumption)))))
            | (go_at_call 15; (with_reducible refine (HC1.out _ (by with_reducible repeat (first | exact Ext.refl _ | assumption | apply Ext.drewN | apply Ext.drew | apply Ext.alloc | (refine Ext.setCell ?_ (by simp <;> omega) _) | (refine Ext.trans ?_ (by assumption))))).mono ?_); rintro e w3 ⟨rfl, hx3⟩; obtain ⟨s30, s31, s32, s33, s34, s35⟩ := HSS.out w3 (by with_reducible repeat (first | exact Ext.refl _ | assumption | apply Ext.drewN | apply Ext.drew | apply Ext.alloc | (refine Ext.setCell ?_ (by simp <;> omega) _) | (refine Ext.trans ?_ (by assumption)))))
            | (go_at_call 15; (with_reducible refine (HC2.out _ (by with_reducible repeat (first | exact Ext.refl _ | assumption | apply Ext.drewN | apply Ext.drew | apply Ext.alloc | (refine Ext.setCell ?_ (by simp <;> omega) _) | (refine Ext.trans ?_ (by assumption))))).mono ?_); rintro e w4 ⟨rfl, hx4⟩; obtain ⟨s40, s41, s42, s43, s44, s45⟩ := HSS.out w4 (by with_reducible repeat (first | exact Ext.refl _ | assumption | apply Ext.drewN | apply Ext.drew | apply Ext.alloc | (refine Ext.setCell ?_ (by simp <;> omega) _) | (refine Ext.trans ?_ (by assumption)))))
            | (go_at_call 15; (with_reducible refine (HC3.out _ (by with_reducible repeat (first | exact Ext.refl _ | assumption | apply Ext.drewN | apply Ext.drew | apply Ext.alloc | (refine Ext.setCell ?_ (by simp <;> omega) _) | (refine Ext.trans ?_ (by assumption))))).mono ?_); rintro e w5 ⟨rfl, hx5⟩))
        go_ret
        exact ⟨rfl, HXN.out.trans (by with_reducible repeat (first | exact Ext.refl _ | assumption | apply Ext.drewN | apply Ext.drew | apply Ext.alloc | (refine Ext.setCell ?_ (by simp <;> omega) _) | (refine Ext.trans ?_ (by assumption))))⟩
end Go.Proofs.Ytlekdhhgjhakgaa
