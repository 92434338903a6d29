/-
  FlowOrder, walked. Conditions: the arguments read as rows of ints and a byte.
-/
import Derived.Test.YthdhlocoiipbaaaFlO
namespace Go.Proofs.Ythdhlocoiipbaaa
set_option linter.unusedVariables false
set_option linter.unusedSimpArgs false
open Go.RowKit

theorem It.good.cells {w : World} {x : It} (h : x.good w) : x.cs.length = 3 ∧ ∀ c ∈ x.cs, c.oneCell' = true := by
  obtain ⟨A, c, hs⟩ := h.shape
  obtain ⟨a, b, fv, fr⟩ := x
  simp only at hs
  subst hs
  exact ⟨rfl, by simp [It.cs, Value.oneCell']⟩
theorem Ms.good.cells {w : World} {x : Ms} (h : x.good w) : x.cs.length = 4 ∧ ∀ c ∈ x.cs, c.oneCell' = true := by
  obtain ⟨A, c, hs⟩ := h.shape
  obtain ⟨a, b, d, fv, fr⟩ := x
  simp only at hs
  subst hs
  exact ⟨rfl, by simp [Ms.cs, Value.oneCell']⟩

set_option maxRecDepth 100000 in
set_option maxHeartbeats 4000000 in
theorem order_walk (v u : Value) (f g : Nat → Nat → Int) (n m : Nat) (q : Nat) (hq : q ≤ 255) (w : World) (h : RA 3 w v f n) (h5 : RA 5 w u g m) :
    Calls Try.prog 10 #[v, u, .int .u8 q] w fun e w' => e = .returned (.bool true) ∧ Ext w w' := by
  have H0 := Lib.hid h; clear h
  have H5 := Lib.hid h5; clear h5
  go_enter Try.func10, Try.ntmps10
  go_upto_region 3 with (first
    | (go_at_call 11; (with_reducible refine (sanity_any _).mono ?_); rintro e w1 ⟨rfl, hx1⟩)
    | (go_at_call 12; (with_reducible refine (Made_any v f n _ (H0.out.ext hx1)).mono ?_); rintro e w2 ⟨r, xs, rfl, hM, hN, hx2⟩; obtain ⟨bx, cx, rfl⟩ := (hM.ri (by omega)).1.form; have hX := Lib.hid (hM.x hN); have hR := Lib.hid (hM.ri (by omega)); have hxl : xs.length ≤ 20 := (by omega); clear hM hN))
  go_upto_region 4 with (go_at_call 17; (with_reducible refine (Messages_any u g m xs.length _ ((H5.out.ext hx1).ext hx2) (by omega)).mono ?_); rintro e w3 ⟨r3, ms, rfl, hS, -, hx3⟩; obtain ⟨bm, cm, rfl⟩ := (hS.rm (by omega) (by omega)).1.form)
  have hY := Lib.hid (hS.x (by omega))
  have hRM := Lib.hid (hS.rm (by omega) (by omega))
  clear hS
  have hml := hY.out.1
  have hR3 := Lib.hid (hR.out.ext hx3)
  have hx03 : Ext w w3 := (hx1.trans hx2).trans hx3
  clear hx1 hx2 hx3 hR
  obtain ⟨us, hus⟩ : ∃ us, us = rotL (q % xs.length) xs := ⟨_, rfl⟩
  have hul : us.length = xs.length := by rw [hus, rotL_len]
  have HUS := Lib.hid hus
  go_upto_region 7 with (fail)
  go_loopw [10, 12] (fun o k wr => ∃ j : Nat, k = .int .i64 j ∧ j ≤ xs.length ∧ wr.ownsRow w3.heap.size 32 3 o (us.take j).length ((us.take j).flatMap It.cs) ∧ Ext w3 wr) (fun _ k _ => xs.length - (iof k).toNat)
  case atStart => exact ⟨0, rfl, by omega, World.ownsRow_nil _ _ _ _, Ext.refl _⟩
  case round =>
    obtain ⟨j, rfl, hj, hrow, hx⟩ := hrel
    by_cases hjl : j < xs.length
    · obtain ⟨hi, hi', hget⟩ := rotL_get (q := q) hjl
      have htk : us.take (j + 1) = us.take j ++ [xs[(j + q) % xs.length]] := by
        rw [List.take_succ_eq_append_getElem (by omega)]
        congr 2
        rw [← hget]
        simp only [hus]
      have hmod : ((j : Int) + q) % (xs.length : Int) = (((j + q) % xs.length : Nat) : Int) := by push_cast; rfl
      have htl : (us.take j).length = j := by rw [List.length_take]; omega
      generalize hid : (j + q) % xs.length = i at *
      obtain ⟨b, off, rfl, -, c0, c1, c2⟩ := it_at (hR3.out.1.ext hx) i hi
      have hcg := ((hR3.out.2 xs[i] (List.getElem_mem _)).ext hx).cells
      obtain ⟨A, c, hsh⟩ := (hR3.out.2 xs[i] (List.getElem_mem _)).shape
      have Htk := Lib.hid htk; clear htk hget hid hi' hus
      generalize xs[i] = x at *
      obtain ⟨xid, xlab, xfv, xfrm⟩ := x
      simp only at hsh c0 c1 c2
      subst hsh
      have hn0 : ¬ (xs.length : Int) = 0 := by omega
      go_wp2_with (at_builtin; go_loud (refine append_u (cs := It.cs) (z := .agg #[.int .i64 0, .int .i64 0, .slice none 0 0]) 23 32 40 Try.underlying23 (by kernel_rfl) (by rfl) (by decide) (by decide) rfl _ _ rfl w3.heap.size _ (us.take j) (by rfl) (row_ext hrow (Ext.alloc (Ext.refl _) _)) wr.heap.size ⟨xid, xlab, .slice A xfrm.length c, xfrm⟩ hcg (by rfl) (World.alloc_heap_new _ _) (by omega) (by have := hx.size; simp; omega) ?_; intro g cap' w9 hr9 hb9))
      exact ⟨⟨j + 1, by simp, by omega, by rw [Htk.out]; simpa [htl] using hr9, Below.trans (hx.trans (Ext.alloc (Ext.refl _) _)) hb9⟩, by simp; omega⟩
    · obtain rfl : j = xs.length := by omega
      rw [List.take_of_length_le (by omega)] at hrow
      obtain ⟨ub, uc, rfl⟩ := (SR.of_row (cs := It.cs) (fun x => rfl) hrow (by omega)).form
      have hUR := Lib.hid (show RI wr (.slice ub us.length uc) us from ⟨(SR.of_row (cs := It.cs) (fun x => rfl) hrow (by omega)).sq, fun x hx' => ((hR3.out.2 x (by rw [hus] at hx'; exact (rotL_mem _ _).1 hx')).ext hx)⟩)
      rw [hul] at hUR ⊢
      obtain ⟨w5, hw5⟩ : ∃ w5, w5 = wr := ⟨wr, rfl⟩
      subst hw5
      have hR5 := Lib.hid (hR3.out.ext hx)
      have hM5 := Lib.hid (hRM.out.ext hx)
      have hx05 : Ext w w5 := hx03.trans hx
      clear hrow hx hx03 hR3 hRM
      obtain ⟨vs, hvs⟩ : ∃ vs, vs = rotL (q % ms.length) ms := ⟨_, rfl⟩
      have hvl : vs.length = ms.length := by rw [hvs, rotL_len]
      have HVS := Lib.hid hvs
      clear hus
      go_upto_region 11 with (fail)
      go_loopw [11, 13] (fun o k wr => ∃ j : Nat, k = .int .i64 j ∧ j ≤ ms.length ∧ wr.ownsRow w5.heap.size 48 4 o (vs.take j).length ((vs.take j).flatMap Ms.cs) ∧ Ext w5 wr) (fun _ k _ => ms.length - (iof k).toNat)
      case atStart => exact ⟨0, rfl, by omega, World.ownsRow_nil _ _ _ _, Ext.refl _⟩
      case round =>
        obtain ⟨j, rfl, hj, hrow, hx⟩ := hrel
        by_cases hjl : j < ms.length
        · obtain ⟨hi, hi', hget⟩ := rotL_get (q := q) hjl
          have htk : vs.take (j + 1) = vs.take j ++ [ms[(j + q) % ms.length]] := by
            rw [List.take_succ_eq_append_getElem (by omega)]
            congr 2
            rw [← hget]
            simp only [hvs]
          have hmod : ((j : Int) + q) % (ms.length : Int) = (((j + q) % ms.length : Nat) : Int) := by push_cast; rfl
          have htl : (vs.take j).length = j := by rw [List.length_take]; omega
          generalize hid : (j + q) % ms.length = i at *
          obtain ⟨b, off, rfl, -, c0, c1, c2, c3⟩ := ms_at (hM5.out.1.ext hx) i hi
          have hcg := ((hM5.out.2 ms[i] (List.getElem_mem _)).ext hx).cells
          obtain ⟨A, c, hsh⟩ := (hM5.out.2 ms[i] (List.getElem_mem _)).shape
          have Htk := Lib.hid htk; clear htk hget hid hi' hvs
          generalize ms[i] = x at *
          obtain ⟨q0, q1, q2, qv, qi⟩ := x
          simp only at hsh c0 c1 c2 c3
          subst hsh
          have hn0 : ¬ (ms.length : Int) = 0 := by omega
          go_wp2_with (at_builtin; go_loud (refine append_u (cs := Ms.cs) (z := .agg #[.int .i64 0, .int .i64 0, .int .i64 0, .slice none 0 0]) 36 48 48 Try.underlying36 (by kernel_rfl) (by rfl) (by decide) (by decide) rfl _ _ rfl w5.heap.size _ (vs.take j) (by rfl) (row_ext hrow (Ext.alloc (Ext.refl _) _)) wr.heap.size ⟨q0, q1, q2, .slice A qi.length c, qi⟩ hcg (by rfl) (World.alloc_heap_new _ _) (by omega) (by have := hx.size; simp; omega) ?_; intro g cap' w9 hr9 hb9))
          exact ⟨⟨j + 1, by simp, by omega, by rw [Htk.out]; simpa [htl] using hr9, Below.trans (hx.trans (Ext.alloc (Ext.refl _) _)) hb9⟩, by simp; omega⟩
        · obtain rfl : j = ms.length := by omega
          rw [List.take_of_length_le (by omega)] at hrow
          obtain ⟨vb, vc, rfl⟩ := (SR.of_row (cs := Ms.cs) (fun x => rfl) hrow (by omega)).form
          have hVM := Lib.hid (show RM wr (.slice vb vs.length vc) vs from ⟨(SR.of_row (cs := Ms.cs) (fun x => rfl) hrow (by omega)).sq, fun x hx' => ((hM5.out.2 x (by rw [hvs] at hx'; exact (rotL_mem _ _).1 hx')).ext hx)⟩)
          rw [hvl] at hVM ⊢
          obtain ⟨w6, hw6⟩ : ∃ w6, w6 = wr := ⟨wr, rfl⟩
          subst hw6
          have hR6 := Lib.hid (hR5.out.ext hx)
          have hU6 := Lib.hid (hUR.out.ext hx)
          have hM6 := Lib.hid (hM5.out.ext hx)
          have hx06 : Ext w w6 := hx05.trans hx
          clear hrow hx hx05 hR5 hM5 hUR hvs
          obtain ⟨hal, hnd⟩ := alike_rot hX.out.nodup (q % xs.length)
          rw [← HUS.out] at hal hnd
          have HAL := Lib.hid hal; have HND := Lib.hid hnd; clear hal hnd
          go_upto_region 15 with (go_at_call 15; first
            | ((with_reducible refine (Labels_lab xs _ w6 hR6.out).mono ?_); rintro e w7 ⟨r7, rfl, hr7, -, hx7⟩; obtain ⟨lb, lc, rfl⟩ := hr7.formN (n := xs.length) (by simp))
            | ((with_reducible refine (Labels_lab us _ w7 (hU6.out.ext hx7)).mono ?_); rintro e w8 ⟨r8, rfl, hr8, -, hx8⟩; obtain ⟨kb, kc, rfl⟩ := hr8.formN (n := xs.length) (by simp [hul])))
          have hlb : ∀ j (hj : j < xs.length), ∃ b off, lb = some ⟨b, off, none⟩ ∧ w8.cell? ⟨b, off + j, none⟩ = some (.int .i64 (labOf xs xs[j])) := by
            intro j hj
            obtain ⟨A', c', e1, -, -, hcell⟩ := hr7.ext hx8
            injection e1 with e1 e2 e3
            subst e1 e3
            obtain ⟨b, off, rfl, hc⟩ := hcell.resolve_left (by intro e; rw [List.map_eq_nil_iff] at e; rw [e] at hj; simp at hj)
            have := hc j (by simpa using hj)
            rw [List.getElem_map] at this
            exact ⟨b, off, rfl, this⟩
          have hkb : ∀ j (hj : j < us.length), ∃ b off, kb = some ⟨b, off, none⟩ ∧ w8.cell? ⟨b, off + j, none⟩ = some (.int .i64 (labOf xs us[j])) := by
            intro j hj
            obtain ⟨A', c', e1, -, -, hcell⟩ := hr8
            injection e1 with e1 e2 e3
            subst e1 e3
            obtain ⟨b, off, rfl, hc⟩ := hcell.resolve_left (by intro e; rw [List.map_eq_nil_iff] at e; rw [e] at hj; simp at hj)
            have := hc j (by simpa using hj)
            rw [List.getElem_map, HAL.out.lab] at this
            exact ⟨b, off, rfl, this⟩
          have HLB := Lib.hid hlb; have HKB := Lib.hid hkb
          clear hlb hkb hr7 hr8
          have hx68 := hx7.trans hx8
          have hU8 := Lib.hid (hU6.out.ext hx68)
          clear hx7 hx8
          go_upto_region 18 with (fail)
          go_loopw [16] (fun k wr => ∃ j : Nat, k = .int .i64 j ∧ j ≤ xs.length ∧ Ext w8 wr) (fun k _ => xs.length - (iof k).toNat)
          case atStart => exact ⟨0, rfl, by omega, Ext.refl _⟩
          case round =>
            obtain ⟨j, rfl, hj, hx⟩ := hrel
            by_cases hjl : j < xs.length
            · obtain ⟨hi, hi', hget⟩ := rotL_get (q := q) hjl
              have hju : j < us.length := by omega
              have hue : us[j] = xs[(j + q) % xs.length] := by rw [← hget]; simp only [HUS.out]
              generalize (j + q) % xs.length = i at *
              obtain ⟨b, off, rfl, c0⟩ := HLB.out i hi
              obtain ⟨b', off', rfl, d0⟩ := HKB.out j hju
              obtain ⟨ub', uo, hub, -, e0, -, -⟩ := it_at (hU8.out.1.ext hx) j hju
              subst hub
              rw [hue] at d0 e0
              rw [(hX.out.2 i hi).1] at e0
              have c1 := (hx.cells.1 _ _ (World.block_lt_of_cell? w8 ⟨b, off + i, none⟩ c0)).trans c0
              have d1 := (hx.cells.1 _ _ (World.block_lt_of_cell? w8 ⟨b', off' + j, none⟩ d0)).trans d0
              clear hget hi' c0 d0 hue
              generalize labOf xs xs[i] = lm at *
              go_upto_region 20 with (fail)
              go_quiet (fail)
              go_wp2_with (fail)
              exact ⟨⟨j + 1, by simp, by omega, Ext.drewN hx _⟩, by simp; omega⟩
            · obtain rfl : j = xs.length := by omega
              obtain ⟨w9, hw9⟩ : ∃ w9, w9 = wr := ⟨wr, rfl⟩
              subst hw9
              have hx69 := hx68.trans hx
              clear hx
              have hits : ∀ m ∈ ms, ∀ id ∈ m.its, 1 ≤ id ∧ id ≤ xs.length := fun m hm id hid => hY.out.its hm hid
              have hck := ms_chk hX.out hits [2, 3] 6
              have hcv : chk us vs [3, 2, 2] 6 = if vs.filter (bad xs [2, 3] 6) = [] then ([], 0) else (vs.filter (bad xs [2, 3] 6), 40) := by
                have hmi : miss us vs = false := by
                  have h0 := ms_miss (M := 0) (g := fun _ _ => 0) hX.out hits
                  unfold miss at h0 ⊢
                  rw [HAL.out.mis]
                  rw [Bool.or_eq_false_iff, List.any_eq_false, List.any_eq_false] at h0 ⊢
                  exact ⟨fun x hx => h0.1 x (by rw [HUS.out] at hx; exact (rotL_mem _ _).1 hx), fun x hx => h0.2 x (by rw [HVS.out] at hx; exact (rotL_mem _ _).1 hx)⟩
                unfold chk
                rw [if_neg (by simpa using HND.out), if_neg (by rw [hmi]; simp), HAL.out.bad]
              have hfl : (vs.filter (bad xs [2, 3] 6)).length = (ms.filter (bad xs [2, 3] 6)).length := by rw [HVS.out, rot_filter]
              have hkn : srt (knowL us 2 5 vs) = srt (knowL xs 2 5 ms) := by rw [HVS.out, rot_know HAL.out]
              obtain ⟨K, o1, o2, hk1, hk2, ho⟩ : ∃ K o1 o2, chk xs ms [2, 3] 6 = (o1, K) ∧ chk us vs [3, 2, 2] 6 = (o2, K) ∧ o1.length = o2.length := by
                by_cases hf : ms.filter (bad xs [2, 3] 6) = []
                · have hf2 : vs.filter (bad xs [2, 3] 6) = [] := List.length_eq_zero_iff.1 (by rw [hfl, hf]; rfl)
                  rw [if_pos hf] at hck
                  rw [if_pos hf2] at hcv
                  exact ⟨_, _, _, hck, hcv, rfl⟩
                · have hf2 : ¬ vs.filter (bad xs [2, 3] 6) = [] := fun e => hf (List.length_eq_zero_iff.1 (by rw [← hfl, e]; rfl))
                  rw [if_neg hf] at hck
                  rw [if_neg hf2] at hcv
                  exact ⟨_, _, _, hck, hcv, hfl.symm⟩
              have hC := Check_any xs ms [2, 3] 6 (.slice bx xs.length cx) (.slice bm ms.length cm) (.slice (some ⟨w9.heap.size, 0, none⟩) 2 2) (w9.alloc (.cells #[.int .i64 2, .int .i64 3] 3)) ((hR6.out.ext hx69).ext (Ext.alloc (Ext.refl _) _)) ((hM6.out.ext hx69).ext (Ext.alloc (Ext.refl _) _)) (ird_lit (zs := [2, 3]) (World.alloc_heap_new w9 _) (by intro z hz; exact okI_small (by simp at hz; omega)) rfl (by decide)) (okI_small (by omega))
              rw [hk1] at hC
              obtain ⟨nf, hnf⟩ : ∃ nf, o2.length = nf := ⟨_, rfl⟩
              rw [hnf] at ho
              clear hck hcv hfl hits hk1
              go_upto_region 23 with (go_at_call 18; (with_reducible refine hC.mono ?_); clear hC; rintro e w10 ⟨r10, rfl, hr10, hx10⟩; obtain ⟨b10, c10, h10⟩ := hr10.1.form; rw [ho] at h10; subst h10; clear hr10)
              have hx610 : Ext w6 w10 := hx69.trans (Ext.trans (Ext.alloc (Ext.refl _) _) hx10)
              have hD := Check_any us vs [3, 2, 2] 6 (.slice ub xs.length uc) (.slice vb ms.length vc) (.slice (some ⟨w10.heap.size, 0, none⟩) 3 3) (w10.alloc (.cells #[.int .i64 3, .int .i64 2, .int .i64 2] 3)) ((hU6.out.ext hx610).ext (Ext.alloc (Ext.refl _) _)) ((hVM.out.ext hx610).ext (Ext.alloc (Ext.refl _) _)) (ird_lit (zs := [3, 2, 2]) (World.alloc_heap_new w10 _) (by intro z hz; exact okI_small (by simp at hz; omega)) rfl (by decide)) (okI_small (by omega))
              rw [hk2] at hD
              clear hx10 hx69 hk2
              go_upto_region 24 with (go_at_call 18; (with_reducible refine hD.mono ?_); clear hD; rintro e w11 ⟨r11, rfl, hr11, hx11⟩; obtain ⟨b11, c11, h11⟩ := hr11.1.form; rw [hnf] at h11; subst h11; clear hr11)
              have hx611 : Ext w6 w11 := hx610.trans (Ext.trans (Ext.alloc (Ext.refl _) _) hx11)
              clear hx11 hx610
              have hsm := hY.out.small
              have hsv : vs.length ≤ 100 ∧ ∀ m ∈ vs, m.its.length ≤ 100 := ⟨by rw [hvl]; exact hsm.1, fun m hm => hsm.2 m (by rw [HVS.out] at hm; exact (rotL_mem _ _).1 hm)⟩
              have hK1 := Knows_any xs ms 2 5 (.slice bx xs.length cx) (.slice bm ms.length cm) w11 (hR6.out.ext hx611) (hM6.out.ext hx611) hsm
              have hK2 : ∀ w12, Ext w11 w12 → _ := fun w12 h => Knows_any us vs 2 5 (.slice ub xs.length uc) (.slice vb ms.length vc) w12 (hU6.out.ext (hx611.trans h)) (hVM.out.ext (hx611.trans h)) hsv
              rw [hkn] at hK2
              clear hkn
              generalize srt (knowL xs 2 5 ms) = KN at *
              go_wp2_with (first
                | (go_at_call 21; first | ((with_reducible refine hK1.mono ?_); clear hK1; rintro e w12 ⟨r12, rfl, hr12, hx12⟩) | ((with_reducible refine (hK2 _ hx12).mono ?_); rintro e w13 ⟨r13, rfl, hr13, hx13⟩; have hI := Ints_any r12 r13 KN KN w13 (hr12.ext hx13) hr13; rw [decide_eq_true rfl] at hI))
                | (go_at_call 14; (with_reducible refine hI.mono ?_); rintro e w14 ⟨rfl, hx14⟩))
              go_ret
              exact ⟨rfl, (((hx06.trans hx611).trans hx12).trans hx13).trans hx14⟩

end Go.Proofs.Ythdhlocoiipbaaa
