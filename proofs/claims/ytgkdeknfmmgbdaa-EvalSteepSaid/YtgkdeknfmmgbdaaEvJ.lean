/-
  The examples that each statement begins with (sanity): they return true. Nothing is asked.
-/
import Derived.Test.YtgkdeknfmmgbdaaEvI
import Derived.Deep.Cut
namespace Go.Proofs.Ytgkdeknfmmgbdaa
set_option linter.unusedVariables false
set_option linter.unusedSimpArgs false
open Go.RowKit

abbrev All : Nat → Prop := fun _ => True
theorem rd60 (n : Int) (w : World) (h1 : -9223372036854775808 ≤ n := by decide) (h2 : n ≤ 9223372036854775807 := by decide) : Rd All w (numE (n, 1)) (leafV numB (n, 1) nilB) := Rd.leaf (I2.int h1 h2)
theorem rdN (nm : ByteArray) (w : World) : Rd All w (nameE nm) (leafV nameB (0, 0) nm) := Rd.leaf I2.zero

theorem vrd2 {w : World} {N : Nat} {a b : ByteArray} {n m : Int} (h : w.heap[N]? = some (.cells #[.string a, .int .i64 n, .string b, .int .i64 m] 51)) (hr : VR [(a, n), (b, m)]) : VRd All w [(a, n), (b, m)] (.slice (some ⟨N, 0, none⟩) 2 2) := by
  refine ⟨_, _, rfl, by simp, hr, .inr ⟨_, rfl, trivial, ?_⟩⟩
  intro k hk
  rw [cell_of_row w _ _ _ _ _ h, cell_of_row w _ _ _ _ _ h]
  match k, hk with
  | 0, _ => exact ⟨rfl, rfl⟩
  | 1, _ => exact ⟨rfl, rfl⟩
theorem vrd1 {w : World} {N : Nat} {a : ByteArray} {n : Int} (h : w.heap[N]? = some (.cells #[.string a, .int .i64 n] 51)) (hr : VR [(a, n)]) : VRd All w [(a, n)] (.slice (some ⟨N, 0, none⟩) 1 1) := by
  refine ⟨_, _, rfl, by simp, hr, .inr ⟨_, rfl, trivial, ?_⟩⟩
  intro k hk
  rw [cell_of_row w _ _ _ _ _ h, cell_of_row w _ _ _ _ _ h]
  match k, hk with
  | 0, _ => exact ⟨rfl, rfl⟩
theorem VR.one {a : ByteArray} {n : Int} (h1 : -9223372036854775808 ≤ n := by decide) (h2 : n ≤ 9223372036854775807 := by decide) : VR [(a, n)] := by
  intro x hx
  simp only [List.mem_cons, List.not_mem_nil, or_false] at hx
  subst hx
  exact ⟨h1, h2⟩
theorem VR.cons {a : ByteArray} {n : Int} {l : Vals} (h : VR l) (h1 : -9223372036854775808 ≤ n := by decide) (h2 : n ≤ 9223372036854775807 := by decide) : VR ((a, n) :: l) := by
  intro x hx
  rcases List.mem_cons.1 hx with rfl | hx
  · exact ⟨h1, h2⟩
  · exact h x hx

theorem eval_ex (vs : Vals) (t : Ex) (r : (Int × Int) × Int) (w : World) (v sl : Value) (hv : Rd All w t v) (hs : VRd All w vs sl) (h : evalI vs t = r) :
    Calls Try.prog 17 #[v, sl] w fun e w' => e = .returned (rev r) ∧ Ext w w' := by
  rw [← h]; exact eval_any All vs t w v sl hv hs

theorem holds_hd {f : World → Prop} {fs : Rr.Fs} {w : World} (h : Rr.Holds (f :: fs) w) : f w := h _ List.mem_cons_self
theorem simp_ex (w : World) (v : Value) (hv : Rd All w exT5 v) : Calls Try.prog 19 #[v] w fun e w' => ∃ v', e = .returned v' ∧ Ext w w' ∧ Rd All w' exT6 v' := by
  have h := simplify_any All All exT5 w v hv (fun _ => hv) (fun _ _ => trivial)
  rw [ex5] at h
  exact h

set_option maxRecDepth 100000 in
set_option maxHeartbeats 4000000 in
theorem sanity_any (w : World) : Calls Try.prog 13 #[] w fun e w' => e = .returned (.bool true) ∧ Ext w w' := by
  go_enter Try.func13, Try.ntmps13
  go_upto_region 2 with (fail)
  have hv : VRd All (w.alloc (.cells #[.string priceB, .int .i64 90, .string lowB, .int .i64 60] 51)) [(priceB, 90), (lowB, 60)] (.slice (some ⟨w.heap.size, 0, none⟩) 2 2) := vrd2 (block_new rfl) (VR.cons VR.one)
  have hx0 : Ext w (w.alloc (.cells #[.string priceB, .int .i64 90, .string lowB, .int .i64 60] 51)) := (by with_reducible repeat (first | exact Ext.refl _ | assumption | apply Ext.drewN | apply Ext.drew | apply Ext.alloc | (refine Ext.setCell ?_ (by simp <;> omega) _) | (refine Ext.trans ?_ (by assumption))))
  generalize w.alloc (.cells #[.string priceB, .int .i64 90, .string lowB, .int .i64 60] 51) = W at *
  have HV := Lib.hid hv
  clear hv
  go_cut [2, 3] (fun s2 s3 wx => ∃ p, s2 = .pointer (some ⟨p, 0, none⟩) ∧ s3 = .int .i64 0 ∧ wx.cell? ⟨p, 0, none⟩ = some (.int .i64 40) ∧ wx.cell? ⟨p, 1, none⟩ = some (.int .i64 1) ∧ Ext w wx)
  case first =>
    go_wp2_with (first | (go_at_call 31; (with_reducible refine (num_any _ _).mono ?_); rintro e wn ⟨rfl, hbn⟩) | (go_at_call 30; (with_reducible refine (name_any _ _).mono ?_); rintro e wm ⟨rfl, hbm⟩))
    (with_reducible refine (op_any All mulB (numE (60, 1)) (nameE lowB) _ _ _ (rd60 60 _) (rdN _ _) (fun _ _ => trivial)).mono ?_)
    rintro e w1 ⟨v1, rfl, hx1, hr1⟩
    go_wp2_with (first | (go_at_call 31; (with_reducible refine (num_any _ _).mono ?_); rintro e wn ⟨rfl, hbn⟩) | (go_at_call 30; (with_reducible refine (name_any _ _).mono ?_); rintro e wm ⟨rfl, hbm⟩))
    (with_reducible refine (op_any All quoB (opE' mulB (numE (60, 1)) (nameE lowB)) (nameE priceB) _ _ _ (hr1.ext (by with_reducible repeat (first | exact Ext.refl _ | assumption | apply Ext.drewN | apply Ext.drew | apply Ext.alloc | (refine Ext.setCell ?_ (by simp <;> omega) _) | (refine Ext.trans ?_ (by assumption))))) (rdN _ _) (fun _ _ => trivial)).mono ?_)
    rintro e w2 ⟨v2, rfl, hx2, hr2⟩
    go_wp2_with (first | (go_at_call 31; (with_reducible refine (num_any _ _).mono ?_); rintro e wn ⟨rfl, hbn⟩) | (go_at_call 30; (with_reducible refine (name_any _ _).mono ?_); rintro e wm ⟨rfl, hbm⟩))
    (with_reducible refine (eval_ex [(priceB, 90), (lowB, 60)] exT1 _ _ _ _ hr2 (HV.out.ext (by with_reducible repeat (first | exact Ext.refl _ | assumption | apply Ext.drewN | apply Ext.drew | apply Ext.alloc | (refine Ext.setCell ?_ (by simp <;> omega) _) | (refine Ext.trans ?_ (by assumption))))) ex1).mono ?_)
    rintro e w3 ⟨rfl, hx3⟩
    have hx4 : Ext w w3 := (by with_reducible repeat (first | exact Ext.refl _ | assumption | apply Ext.drewN | apply Ext.drew | apply Ext.alloc | (refine Ext.setCell ?_ (by simp <;> omega) _) | (refine Ext.trans ?_ (by assumption))))
    go_wp2
    go_meet
    case rel => exact ⟨_, rfl, rfl, by go_simp, by go_simp, (by with_reducible repeat (first | exact Ext.refl _ | assumption | apply Ext.drewN | apply Ext.drew | apply Ext.alloc | (refine Ext.setCell ?_ (by simp <;> omega) _) | (refine Ext.trans ?_ (by assumption))))⟩
  case rest =>
    obtain ⟨wd, rfl⟩ : ∃ wd : World, wd = wc := ⟨_, rfl⟩
    obtain ⟨p2, rfl, rfl, c20, c21, hxd⟩ := hcut
    clear HV hx0
    have p2l : p2 < wd.heap.size := World.block_lt_of_cell? wd _ c20
    go_upto_region 3 with (fail)
    go_cut [4, 5] (fun s4 s5 wx => s5 = .int .i64 15 ∧ Ext wd wx)
    case first =>
      go_wp2_with (first | (go_at_call 31; (with_reducible refine (num_any _ _).mono ?_); rintro e wn ⟨rfl, hbn⟩) | (go_at_call 30; (with_reducible refine (name_any _ _).mono ?_); rintro e wm ⟨rfl, hbm⟩))
      (with_reducible refine (op_any All subB (nameE priceB) (nameE lowB) _ _ _ (rdN _ _) (rdN _ _) (fun _ _ => trivial)).mono ?_)
      rintro e w1 ⟨v1, rfl, hx1, hr1⟩
      go_wp2_with (first | (go_at_call 31; (with_reducible refine (num_any _ _).mono ?_); rintro e wn ⟨rfl, hbn⟩) | (go_at_call 30; (with_reducible refine (name_any _ _).mono ?_); rintro e wm ⟨rfl, hbm⟩))
      (with_reducible refine (op_any All quoB (numE (1, 1)) (opE' subB (nameE priceB) (nameE lowB)) _ _ _ (rd60 1 _) (hr1.ext (by with_reducible repeat (first | exact Ext.refl _ | assumption | apply Ext.drewN | apply Ext.drew | apply Ext.alloc | (refine Ext.setCell ?_ (by simp <;> omega) _) | (refine Ext.trans ?_ (by assumption))))) (fun _ _ => trivial)).mono ?_)
      rintro e w2 ⟨v2, rfl, hx2, hr2⟩
      go_wp2_with (first | (go_at_call 31; (with_reducible refine (num_any _ _).mono ?_); rintro e wn ⟨rfl, hbn⟩) | (go_at_call 30; (with_reducible refine (name_any _ _).mono ?_); rintro e wm ⟨rfl, hbm⟩))
      (with_reducible refine (eval_ex [(priceB, 5), (lowB, 5)] exT2 _ _ _ _ (hr2.ext (by with_reducible repeat (first | exact Ext.refl _ | assumption | apply Ext.drewN | apply Ext.drew | apply Ext.alloc | (refine Ext.setCell ?_ (by simp <;> omega) _) | (refine Ext.trans ?_ (by assumption))))) (vrd2 (block_new rfl) (VR.cons VR.one)) ex2).mono ?_)
      rintro e w3 ⟨rfl, hx3⟩
      go_wp2
      go_meet
      case rel => exact ⟨rfl, (by with_reducible repeat (first | exact Ext.refl _ | assumption | apply Ext.drewN | apply Ext.drew | apply Ext.alloc | (refine Ext.setCell ?_ (by simp <;> omega) _) | (refine Ext.trans ?_ (by assumption))))⟩
    case rest =>
      obtain ⟨we, rfl⟩ : ∃ we : World, we = wc := ⟨_, rfl⟩
      obtain ⟨rfl, hxe⟩ := hcut
      go_upto_region 4 with (fail)
      go_cut [6] (fun s6 wx => ∃ p op n1 n2 nm base len cap, s6 = .pointer (some ⟨p, 0, none⟩) ∧ cellsE wx p 0 (at5 (.string op) (.int .i64 n1) (.int .i64 n2) (.string nm) (.slice base len cap)) ∧ Rd All wx exHalf (.agg #[.string op, .int .i64 n1, .int .i64 n2, .string nm, .slice base len cap]) ∧ Ext we wx)
      case first =>
        go_wp2_with (first | (go_at_call 31; (with_reducible refine (num_any _ _).mono ?_); rintro e wn ⟨rfl, hbn⟩) | (go_at_call 30; (with_reducible refine (name_any _ _).mono ?_); rintro e wm ⟨rfl, hbm⟩))
        (with_reducible refine (op_any All quoB (numE (1, 1)) (numE (2, 1)) _ _ _ (rd60 1 _) (rd60 2 _) (fun _ _ => trivial)).mono ?_)
        rintro e w1 ⟨v1, rfl, hx1, hr1⟩
        obtain ⟨op, n1, n2, nm, base, len, cap, rfl⟩ := hr1.form
        have HR := Lib.hid hr1
        clear hr1
        go_wp2
        go_meet
        case rel =>
          refine ⟨_, op, n1, n2, nm, base, len, cap, rfl, ?_, HR.out.ext (by with_reducible repeat (first | exact Ext.refl _ | assumption | apply Ext.drewN | apply Ext.drew | apply Ext.alloc | (refine Ext.setCell ?_ (by simp <;> omega) _) | (refine Ext.trans ?_ (by assumption)))), (by with_reducible repeat (first | exact Ext.refl _ | assumption | apply Ext.drewN | apply Ext.drew | apply Ext.alloc | (refine Ext.setCell ?_ (by simp <;> omega) _) | (refine Ext.trans ?_ (by assumption))))⟩
          intro j hj
          match j, hj with
          | 0, _ => go_simp; rfl
          | 1, _ => go_simp; rfl
          | 2, _ => go_simp; rfl
          | 3, _ => go_simp; rfl
          | 4, _ => go_simp; rfl
      case rest =>
        obtain ⟨wf, rfl⟩ : ∃ wf : World, wf = wc := ⟨_, rfl⟩
        obtain ⟨p6, oph, h1, h2, nmh, baseh, lenh, caph, rfl, c6, hrh, hxf⟩ := hcut
        have HH := Lib.hid hrh
        clear hrh
        have g0 : wf.cell? ⟨p6, 0, none⟩ = _ := c6 0 (by decide)
        have g1 : wf.cell? ⟨p6, 1, none⟩ = _ := c6 1 (by decide)
        have g2 : wf.cell? ⟨p6, 2, none⟩ = _ := c6 2 (by decide)
        have g3 : wf.cell? ⟨p6, 3, none⟩ = _ := c6 3 (by decide)
        have g4 : wf.cell? ⟨p6, 4, none⟩ = _ := c6 4 (by decide)
        simp only [at5] at g0 g1 g2 g3 g4
        clear c6
        have p6l : p6 < wf.heap.size := World.block_lt_of_cell? wf _ g0
        go_upto_region 5 with (fail)
        go_cut [7, 8] (fun s7 s8 wx => ∃ p, s7 = .pointer (some ⟨p, 0, none⟩) ∧ s8 = .int .i64 0 ∧ wx.cell? ⟨p, 0, none⟩ = some (.int .i64 1) ∧ wx.cell? ⟨p, 1, none⟩ = some (.int .i64 2) ∧ Ext wf wx)
        case first =>
          refine Rr.wp_regionE [8] [(0, .y), (1, .y), (3, .y), (2, .z), (4, .m), (5, .y), (6, .y), (7, .y), (8, .y), (9, .m)] (fun i => if i = 4 then (.cells #[.string priceB, .int .i64 3] 51, fun p => .slice (some ⟨p, 0, none⟩) 1 1) else (.cells #[.int .i64 0, .int .i64 0] 26, Rg.ptr)) (fun c a d v w h => by have h' : _ ∧ _ := h; exact ⟨(Rr.put_defers a d v).symm.trans h'.1, h'.2⟩) (by kernel_rfl) (by kernel_rfl) ?_
          (refine Rr.wr_y (by simp only [List.getElem?_toArray, List.getElem?_cons_succ, List.getElem?_cons_zero]; rfl) (by rfl) ?_
           apply Exists.intro
           refine ⟨fun wz hw _ => ?_, ?_⟩
           · have hcz := hw.cells.1
             go_simp
             apply Rg.up_enter
             (with_reducible refine (name_any _ _).mono ?_)
             rintro e w3 ⟨rfl, hb3⟩
             exact ⟨rfl, hb3⟩
           simp only [Act.put, List.setIfInBounds_toArray, List.set_cons_zero, List.set_cons_succ])
          (refine Rr.wr_y (by simp only [List.getElem?_toArray, List.getElem?_cons_succ, List.getElem?_cons_zero]; rfl) (by rfl) ?_
           apply Exists.intro
           refine ⟨fun wz hw _ => ?_, ?_⟩
           · have hcz := hw.cells.1
             exact up_load29 (by rfl) ((hcz _ _ p6l).trans g0) ((hcz _ _ p6l).trans g1) ((hcz _ _ p6l).trans g2) ((hcz _ _ p6l).trans g3) ((hcz _ _ p6l).trans g4)
           simp only [Act.put, List.setIfInBounds_toArray, List.set_cons_zero, List.set_cons_succ])
          (refine Rr.wr_y (by simp only [List.getElem?_toArray, List.getElem?_cons_succ, List.getElem?_cons_zero]; rfl) (by rfl) ?_
           apply Exists.intro
           refine ⟨fun wz hw _ => ?_, ?_⟩
           · have hcz := hw.cells.1
             go_simp
             (with_reducible exact Rg.up_value)
           simp only [Act.put, List.setIfInBounds_toArray, List.set_cons_zero, List.set_cons_succ])
          refine Rr.wr_z (fun v w' => Rd All w' exT3 v) (by simp only [List.getElem?_toArray, List.getElem?_cons_succ, List.getElem?_cons_zero]; rfl) (by rfl) (fun v w1 w2 h e => by first | exact Rd.ext e h) (fun wz hw hh => ?_) (fun u => ?_)
          · have hcz := hw.cells.1
            go_simp
            apply Rr.upR_enter
            (with_reducible refine (op_any All minB (nameE priceB) exHalf _ _ _ (rdN _ _) (HH.out.ext (by with_reducible repeat (first | exact Ext.refl _ | assumption | apply Ext.drewN | apply Ext.drew | apply Ext.alloc | (refine Ext.setCell ?_ (by simp <;> omega) _) | (refine Ext.trans ?_ (by assumption))))) (fun _ _ => trivial)).mono ?_)
            rintro e w3 ⟨v3, rfl, hx3, hr3⟩
            exact ⟨v3, rfl, hx3, hr3⟩
          simp only [Act.put, List.setIfInBounds_toArray, List.set_cons_zero, List.set_cons_succ]
          refine Rr.wr_m (by simp only [List.getElem?_toArray, List.getElem?_cons_succ, List.getElem?_cons_zero]; rfl) (by rfl) (fun wz => by go_simp) (fun p hp => ?_)
          simp only [Act.put, List.setIfInBounds_toArray, List.set_cons_zero, List.set_cons_succ]
          (refine Rr.wr_y (by simp only [List.getElem?_toArray, List.getElem?_cons_succ, List.getElem?_cons_zero]; rfl) (by rfl) ?_
           apply Exists.intro
           refine ⟨fun wz hw hh => ?_, ?_⟩
           · have hcz := hw.cells.1
             have hr := hh _ (List.mem_cons_of_mem _ List.mem_cons_self)
             have hb : wz.heap[p]? = some (.cells #[.string priceB, .int .i64 3] 51) := (hh _ List.mem_cons_self).2
             go_simp
             apply Rg.up_enter
             (with_reducible refine (eval_ex [(priceB, 3)] exT3 _ _ _ _ hr (vrd1 hb VR.one) ex3).mono ?_)
             rintro e w3 ⟨rfl, hb3⟩
             exact ⟨rfl, hb3⟩
           simp only [Act.put, List.setIfInBounds_toArray, List.set_cons_zero, List.set_cons_succ])
          (refine Rr.wr_y (by simp only [List.getElem?_toArray, List.getElem?_cons_succ, List.getElem?_cons_zero]; rfl) (by rfl) ?_
           apply Exists.intro
           refine ⟨fun wz hw _ => ?_, ?_⟩
           · have hcz := hw.cells.1
             go_simp
             (with_reducible exact Rg.up_value)
           simp only [Act.put, List.setIfInBounds_toArray, List.set_cons_zero, List.set_cons_succ])
          (refine Rr.wr_y (by simp only [List.getElem?_toArray, List.getElem?_cons_succ, List.getElem?_cons_zero]; rfl) (by rfl) ?_
           apply Exists.intro
           refine ⟨fun wz hw _ => ?_, ?_⟩
           · have hcz := hw.cells.1
             go_simp
             (with_reducible exact Rg.up_value)
           simp only [Act.put, List.setIfInBounds_toArray, List.set_cons_zero, List.set_cons_succ])
          (refine Rr.wr_y (by simp only [List.getElem?_toArray, List.getElem?_cons_succ, List.getElem?_cons_zero]; rfl) (by rfl) ?_
           apply Exists.intro
           refine ⟨fun wz hw _ => ?_, ?_⟩
           · have hcz := hw.cells.1
             go_simp
             (with_reducible exact Rg.up_value)
           simp only [Act.put, List.setIfInBounds_toArray, List.set_cons_zero, List.set_cons_succ])
          refine Rr.wr_m (by simp only [List.getElem?_toArray, List.getElem?_cons_succ, List.getElem?_cons_zero]; rfl) (by rfl) (fun wz => by go_simp) (fun q hq => ?_)
          simp only [Act.put, List.setIfInBounds_toArray, List.set_cons_zero, List.set_cons_succ]
          refine Rr.wr_nil ?_
          intro wy hy hh
          have hq1 := hh _ List.mem_cons_self
          obtain ⟨q1, q2⟩ := hq1
          obtain ⟨cq, fq, lq⟩ := Rg.cells_of q2
          simp only [List.length_cons, List.length_nil, List.drop_succ_cons, List.drop_zero, Nat.reduceAdd]
          clear hh
          go_wp2
          go_meet
          case rel => exact ⟨_, rfl, rfl, by go_simp, by go_simp, (by with_reducible repeat (first | exact Ext.refl _ | assumption | apply Ext.drewN | apply Ext.drew | apply Ext.alloc | (refine Ext.setCell ?_ (by simp <;> omega) _) | (refine Ext.trans ?_ (by assumption))))⟩
        case rest =>
          obtain ⟨wg, rfl⟩ : ∃ wg : World, wg = wc := ⟨_, rfl⟩
          obtain ⟨p7, rfl, rfl, c70, c71, hxg⟩ := hcut
          go_upto_region 6 with (fail)
          go_cut [9, 10] (fun s9 s10 wx => s10 = .int .i64 13 ∧ Ext wg wx)
          case first =>
            go_wp2_with (first | (go_at_call 31; (with_reducible refine (num_any _ _).mono ?_); rintro e wn ⟨rfl, hbn⟩) | (go_at_call 30; (with_reducible refine (name_any _ _).mono ?_); rintro e wm ⟨rfl, hbm⟩))
            (with_reducible refine (op_any All addB (nameE qualB) (numE (1, 1)) _ _ _ (rdN _ _) (rd60 1 _) (fun _ _ => trivial)).mono ?_)
            rintro e w1 ⟨v1, rfl, hx1, hr1⟩
            go_wp2_with (first | (go_at_call 31; (with_reducible refine (num_any _ _).mono ?_); rintro e wn ⟨rfl, hbn⟩) | (go_at_call 30; (with_reducible refine (name_any _ _).mono ?_); rintro e wm ⟨rfl, hbm⟩))
            (with_reducible refine (eval_ex [(priceB, 3)] exT4 _ _ _ _ (hr1.ext (by with_reducible repeat (first | exact Ext.refl _ | assumption | apply Ext.drewN | apply Ext.drew | apply Ext.alloc | (refine Ext.setCell ?_ (by simp <;> omega) _) | (refine Ext.trans ?_ (by assumption))))) (vrd1 (block_new rfl) VR.one) ex4).mono ?_)
            rintro e w3 ⟨rfl, hx3⟩
            go_wp2
            go_meet
            case rel => exact ⟨rfl, (by with_reducible repeat (first | exact Ext.refl _ | assumption | apply Ext.drewN | apply Ext.drew | apply Ext.alloc | (refine Ext.setCell ?_ (by simp <;> omega) _) | (refine Ext.trans ?_ (by assumption))))⟩
          case rest =>
            obtain ⟨wh, rfl⟩ : ∃ wh : World, wh = wc := ⟨_, rfl⟩
            obtain ⟨rfl, hxh⟩ := hcut
            go_upto_region 7 with (fail)
            go_cut [11] (fun s11 wx => ∃ p op n1 n2 nm base len cap, s11 = .pointer (some ⟨p, 0, none⟩) ∧ cellsE wx p 0 (at5 (.string op) (.int .i64 n1) (.int .i64 n2) (.string nm) (.slice base len cap)) ∧ Rd All wx exZero (.agg #[.string op, .int .i64 n1, .int .i64 n2, .string nm, .slice base len cap]) ∧ Ext wh wx)
            case first =>
              go_wp2_with (first | (go_at_call 31; (with_reducible refine (num_any _ _).mono ?_); rintro e wn ⟨rfl, hbn⟩) | (go_at_call 30; (with_reducible refine (name_any _ _).mono ?_); rintro e wm ⟨rfl, hbm⟩))
              (with_reducible refine (op_any All quoB (numE (1, 1)) (numE (0, 1)) _ _ _ (rd60 1 _) (rd60 0 _) (fun _ _ => trivial)).mono ?_)
              rintro e w1 ⟨v1, rfl, hx1, hr1⟩
              obtain ⟨op, n1, n2, nm, base, len, cap, rfl⟩ := hr1.form
              have HR := Lib.hid hr1
              clear hr1
              go_wp2
              go_meet
              case rel =>
                refine ⟨_, op, n1, n2, nm, base, len, cap, rfl, ?_, HR.out.ext (by with_reducible repeat (first | exact Ext.refl _ | assumption | apply Ext.drewN | apply Ext.drew | apply Ext.alloc | (refine Ext.setCell ?_ (by simp <;> omega) _) | (refine Ext.trans ?_ (by assumption)))), (by with_reducible repeat (first | exact Ext.refl _ | assumption | apply Ext.drewN | apply Ext.drew | apply Ext.alloc | (refine Ext.setCell ?_ (by simp <;> omega) _) | (refine Ext.trans ?_ (by assumption))))⟩
                intro j hj
                match j, hj with
                | 0, _ => go_simp; rfl
                | 1, _ => go_simp; rfl
                | 2, _ => go_simp; rfl
                | 3, _ => go_simp; rfl
                | 4, _ => go_simp; rfl
            case rest =>
              obtain ⟨wi, rfl⟩ : ∃ wi : World, wi = wc := ⟨_, rfl⟩
              obtain ⟨p11, opz, z1, z2, nmz, basez, lenz, capz, rfl, c11, hrz, hxi⟩ := hcut
              have HZ := Lib.hid hrz
              clear hrz
              have l0 : wi.cell? ⟨p11, 0, none⟩ = _ := c11 0 (by decide)
              have l1 : wi.cell? ⟨p11, 1, none⟩ = _ := c11 1 (by decide)
              have l2 : wi.cell? ⟨p11, 2, none⟩ = _ := c11 2 (by decide)
              have l3 : wi.cell? ⟨p11, 3, none⟩ = _ := c11 3 (by decide)
              have l4 : wi.cell? ⟨p11, 4, none⟩ = _ := c11 4 (by decide)
              simp only [at5] at l0 l1 l2 l3 l4
              clear c11
              have p11l : p11 < wi.heap.size := World.block_lt_of_cell? wi _ l0
              go_upto_region 8 with (fail)
              go_cut [12] (fun s12 wx => ∃ p op n1 n2 nm base len cap, s12 = .pointer (some ⟨p, 0, none⟩) ∧ cellsE wx p 0 (at5 (.string op) (.int .i64 n1) (.int .i64 n2) (.string nm) (.slice base len cap)) ∧ Rd All wx exT6 (.agg #[.string op, .int .i64 n1, .int .i64 n2, .string nm, .slice base len cap]) ∧ Ext wi wx)
              case first =>
                refine Rr.wp_region [(0, .y), (1, .y), (5, .y), (2, .z), (3, .y), (4, .z), (6, .z), (7, .z), (8, .m)] (fun _ => (.cells #[.string ⟨#[]⟩, .int .i64 0, .int .i64 0, .string ⟨#[]⟩, .slice none 0 0] 29, Rg.ptr)) (by kernel_rfl) (by kernel_rfl) ?_
                (refine Rr.wr_y (by simp only [List.getElem?_toArray, List.getElem?_cons_succ, List.getElem?_cons_zero]; rfl) (by rfl) ?_
                 apply Exists.intro
                 refine ⟨fun wz hw _ => ?_, ?_⟩
                 · have hcz := hw.cells.1
                   go_simp
                   apply Rg.up_enter
                   (with_reducible refine (num_any _ _).mono ?_)
                   rintro e w3 ⟨rfl, hb3⟩
                   exact ⟨rfl, hb3⟩
                 simp only [Act.put, List.setIfInBounds_toArray, List.set_cons_zero, List.set_cons_succ])
                (refine Rr.wr_y (by simp only [List.getElem?_toArray, List.getElem?_cons_succ, List.getElem?_cons_zero]; rfl) (by rfl) ?_
                 apply Exists.intro
                 refine ⟨fun wz hw _ => ?_, ?_⟩
                 · have hcz := hw.cells.1
                   go_simp
                   apply Rg.up_enter
                   (with_reducible refine (num_any _ _).mono ?_)
                   rintro e w3 ⟨rfl, hb3⟩
                   exact ⟨rfl, hb3⟩
                 simp only [Act.put, List.setIfInBounds_toArray, List.set_cons_zero, List.set_cons_succ])
                (refine Rr.wr_y (by simp only [List.getElem?_toArray, List.getElem?_cons_succ, List.getElem?_cons_zero]; rfl) (by rfl) ?_
                 apply Exists.intro
                 refine ⟨fun wz hw _ => ?_, ?_⟩
                 · have hcz := hw.cells.1
                   exact up_load29 (by rfl) ((hcz _ _ p11l).trans l0) ((hcz _ _ p11l).trans l1) ((hcz _ _ p11l).trans l2) ((hcz _ _ p11l).trans l3) ((hcz _ _ p11l).trans l4)
                 simp only [Act.put, List.setIfInBounds_toArray, List.set_cons_zero, List.set_cons_succ])
                refine Rr.wr_z (fun v w' => Rd All w' (opE' mulB (numE (2, 1)) (numE (3, 1))) v) (by simp only [List.getElem?_toArray, List.getElem?_cons_succ, List.getElem?_cons_zero]; rfl) (by rfl) (fun v w1 w2 h e => by first | exact Rd.ext e h) (fun wz hw hh => ?_) (fun u => ?_)
                · have hcz := hw.cells.1
                  go_simp
                  apply Rr.upR_enter
                  (with_reducible refine (op_any All mulB (numE (2, 1)) (numE (3, 1)) _ _ _ (rd60 2 _) (rd60 3 _) (fun _ _ => trivial)).mono ?_)
                  rintro e w3 ⟨v3, rfl, hx3, hr3⟩
                  exact ⟨v3, rfl, hx3, hr3⟩
                simp only [Act.put, List.setIfInBounds_toArray, List.set_cons_zero, List.set_cons_succ]
                (refine Rr.wr_y (by simp only [List.getElem?_toArray, List.getElem?_cons_succ, List.getElem?_cons_zero]; rfl) (by rfl) ?_
                 apply Exists.intro
                 refine ⟨fun wz hw _ => ?_, ?_⟩
                 · have hcz := hw.cells.1
                   go_simp
                   apply Rg.up_enter
                   (with_reducible refine (name_any _ _).mono ?_)
                   rintro e w3 ⟨rfl, hb3⟩
                   exact ⟨rfl, hb3⟩
                 simp only [Act.put, List.setIfInBounds_toArray, List.set_cons_zero, List.set_cons_succ])
                refine Rr.wr_z (fun v w' => Rd All w' (opE' addB (opE' mulB (numE (2, 1)) (numE (3, 1))) (nameE priceB)) v) (by simp only [List.getElem?_toArray, List.getElem?_cons_succ, List.getElem?_cons_zero]; rfl) (by rfl) (fun v w1 w2 h e => by first | exact Rd.ext e h) (fun wz hw hh => ?_) (fun u => ?_)
                · have hcz := hw.cells.1
                  go_simp
                  apply Rr.upR_enter
                  (with_reducible refine (op_any All addB (opE' mulB (numE (2, 1)) (numE (3, 1))) (nameE priceB) _ _ _ (holds_hd hh) (rdN _ _) (fun _ _ => trivial)).mono ?_)
                  rintro e w3 ⟨v3, rfl, hx3, hr3⟩
                  exact ⟨v3, rfl, hx3, hr3⟩
                simp only [Act.put, List.setIfInBounds_toArray, List.set_cons_zero, List.set_cons_succ]
                refine Rr.wr_z (fun v w' => Rd All w' exT5 v) (by simp only [List.getElem?_toArray, List.getElem?_cons_succ, List.getElem?_cons_zero]; rfl) (by rfl) (fun v w1 w2 h e => by first | exact Rd.ext e h) (fun wz hw hh => ?_) (fun u => ?_)
                · have hcz := hw.cells.1
                  go_simp
                  apply Rr.upR_enter
                  (with_reducible refine (op_any All quoB (opE' addB (opE' mulB (numE (2, 1)) (numE (3, 1))) (nameE priceB)) exZero _ _ _ (holds_hd hh) (HZ.out.ext (by with_reducible repeat (first | exact Ext.refl _ | assumption | apply Ext.drewN | apply Ext.drew | apply Ext.alloc | (refine Ext.setCell ?_ (by simp <;> omega) _) | (refine Ext.trans ?_ (by assumption))))) (fun _ _ => trivial)).mono ?_)
                  rintro e w3 ⟨v3, rfl, hx3, hr3⟩
                  exact ⟨v3, rfl, hx3, hr3⟩
                simp only [Act.put, List.setIfInBounds_toArray, List.set_cons_zero, List.set_cons_succ]
                refine Rr.wr_z (fun v w' => Rd All w' exT6 v) (by simp only [List.getElem?_toArray, List.getElem?_cons_succ, List.getElem?_cons_zero]; rfl) (by rfl) (fun v w1 w2 h e => by first | exact Rd.ext e h) (fun wz hw hh => ?_) (fun u => ?_)
                · have hcz := hw.cells.1
                  go_simp
                  apply Rr.upR_enter
                  (with_reducible refine (simp_ex _ _ (holds_hd hh)).mono ?_)
                  rintro e w3 ⟨v3, rfl, hx3, hr3⟩
                  exact ⟨v3, rfl, hx3, hr3⟩
                simp only [Act.put, List.setIfInBounds_toArray, List.set_cons_zero, List.set_cons_succ]
                refine Rr.wr_m (by simp only [List.getElem?_toArray, List.getElem?_cons_succ, List.getElem?_cons_zero]; rfl) (by rfl) (fun wz => by go_simp) (fun q hq => ?_)
                simp only [Act.put, List.setIfInBounds_toArray, List.set_cons_zero, List.set_cons_succ]
                refine Rr.wr_nil ?_
                intro wy hy hh
                have hq1 := hh _ List.mem_cons_self
                have hr := hh _ (List.mem_cons_of_mem _ List.mem_cons_self)
                obtain ⟨op, n1, n2, nm, base, len, cap, hform⟩ := Rd.form hr
                subst hform
                have HR := Lib.hid hr
                obtain ⟨q1, q2⟩ := hq1
                obtain ⟨cq, fq, lq⟩ := Rg.cells_of q2
                simp only [List.length_cons, List.length_nil, List.drop_succ_cons, List.drop_zero, Nat.reduceAdd]
                clear hh hr
                go_wp2
                go_meet
                case rel =>
                  have far : ∀ b o, ¬ b = q → b < wy.heap.size → (((((wy.setCell ⟨q, 0, none⟩ (.string op)).setCell ⟨q, 1, none⟩ (.int .i64 n1)).setCell ⟨q, 2, none⟩ (.int .i64 n2)).setCell ⟨q, 3, none⟩ (.string nm)).setCell ⟨q, 4, none⟩ (.slice base len cap)).cell? ⟨b, o, none⟩ = wy.cell? ⟨b, o, none⟩ := by
                    intro b o h1 h2
                    have h3 : ¬ q = b := fun e => h1 e.symm
                    go_simp
                  refine ⟨_, op, n1, n2, nm, base, len, cap, rfl, ?_, Rd.past rfl HR.out (cq 5) far, (by with_reducible repeat (first | exact Ext.refl _ | assumption | apply Ext.drewN | apply Ext.drew | apply Ext.alloc | (refine Ext.setCell ?_ (by simp <;> omega) _) | (refine Ext.trans ?_ (by assumption))))⟩
                  intro j hj
                  match j, hj with
                  | 0, _ => go_simp; rfl
                  | 1, _ => go_simp; rfl
                  | 2, _ => go_simp; rfl
                  | 3, _ => go_simp; rfl
                  | 4, _ => go_simp; rfl
              case rest =>
                obtain ⟨wj, rfl⟩ : ∃ wj : World, wj = wc := ⟨_, rfl⟩
                obtain ⟨p12, opr, r1, r2, nmr, baser, lenr, capr, rfl, c12, hrr, hxj⟩ := hcut
                have HR := Lib.hid hrr
                clear hrr
                have m0 : wj.cell? ⟨p12, 0, none⟩ = _ := c12 0 (by decide)
                have m1 : wj.cell? ⟨p12, 1, none⟩ = _ := c12 1 (by decide)
                have m2 : wj.cell? ⟨p12, 2, none⟩ = _ := c12 2 (by decide)
                have m3 : wj.cell? ⟨p12, 3, none⟩ = _ := c12 3 (by decide)
                have m4 : wj.cell? ⟨p12, 4, none⟩ = _ := c12 4 (by decide)
                simp only [at5] at m0 m1 m2 m3 m4
                clear c12
                have p12l : p12 < wj.heap.size := World.block_lt_of_cell? wj _ m0
                have xij : Ext wi wj := hxj
                have xgj : Ext wg wj := (by with_reducible repeat (first | exact Ext.refl _ | assumption | apply Ext.drewN | apply Ext.drew | apply Ext.alloc | (refine Ext.setCell ?_ (by simp <;> omega) _) | (refine Ext.trans ?_ (by assumption))))
                have xdj : Ext wd wj := (by with_reducible repeat (first | exact Ext.refl _ | assumption | apply Ext.drewN | apply Ext.drew | apply Ext.alloc | (refine Ext.setCell ?_ (by simp <;> omega) _) | (refine Ext.trans ?_ (by assumption))))
                have p7l : p7 < wg.heap.size := World.block_lt_of_cell? wg _ c70
                have a0 := (xdj.cells.1 p2 0 p2l).trans c20
                have a1 := (xdj.cells.1 p2 1 p2l).trans c21
                have b0 := (xgj.cells.1 p7 0 p7l).trans c70
                have b1 := (xgj.cells.1 p7 1 p7l).trans c71
                have k0 := (xij.cells.1 p11 0 p11l).trans l0
                have k1 := (xij.cells.1 p11 1 p11l).trans l1
                have k2 := (xij.cells.1 p11 2 p11l).trans l2
                have k3 := (xij.cells.1 p11 3 p11l).trans l3
                have k4 := (xij.cells.1 p11 4 p11l).trans l4
                have pj2 : p2 < wj.heap.size := Nat.lt_of_lt_of_le p2l xdj.size
                have pj7 : p7 < wj.heap.size := Nat.lt_of_lt_of_le p7l xgj.size
                have pj11 : p11 < wj.heap.size := Nat.lt_of_lt_of_le p11l xij.size
                have HZ2 := Lib.hid (HZ.out.ext xij)
                have hxx : Ext w wj := (by with_reducible repeat (first | exact Ext.refl _ | assumption | apply Ext.drewN | apply Ext.drew | apply Ext.alloc | (refine Ext.setCell ?_ (by simp <;> omega) _) | (refine Ext.trans ?_ (by assumption))))
                go_upto_region 9 with (fail)
                refine Rr.wp_region ((List.range 28).map (fun i => (i, .y)) ++ [(29, .y), (28, .z), (30, .z), (31, .y), (32, .y)]) (fun _ => (.cells #[] 29, Rg.ptr)) (by kernel_rfl) (by kernel_rfl) ?_
                simp only [List.range, List.range.loop, List.map_cons, List.map_nil, List.cons_append, List.nil_append]
                (refine Rr.wr_y (by simp only [List.getElem?_toArray, List.getElem?_cons_succ, List.getElem?_cons_zero]; rfl) (by rfl) ?_
                 apply Exists.intro
                 refine ⟨fun wz hw _ => ?_, ?_⟩
                 · have hcz := hw.cells.1
                   go_simp
                   (with_reducible exact Rg.up_value)
                 simp only [Act.put, List.setIfInBounds_toArray, List.set_cons_zero, List.set_cons_succ])
                (refine Rr.wr_y (by simp only [List.getElem?_toArray, List.getElem?_cons_succ, List.getElem?_cons_zero]; rfl) (by rfl) ?_
                 apply Exists.intro
                 refine ⟨fun wz hw _ => ?_, ?_⟩
                 · have hcz := hw.cells.1
                   go_simp
                   (with_reducible exact Rg.up_value)
                 simp only [Act.put, List.setIfInBounds_toArray, List.set_cons_zero, List.set_cons_succ])
                (refine Rr.wr_y (by simp only [List.getElem?_toArray, List.getElem?_cons_succ, List.getElem?_cons_zero]; rfl) (by rfl) ?_
                 apply Exists.intro
                 refine ⟨fun wz hw _ => ?_, ?_⟩
                 · have hcz := hw.cells.1
                   go_simp
                   (with_reducible exact Rg.up_value)
                 simp only [Act.put, List.setIfInBounds_toArray, List.set_cons_zero, List.set_cons_succ])
                (refine Rr.wr_y (by simp only [List.getElem?_toArray, List.getElem?_cons_succ, List.getElem?_cons_zero]; rfl) (by rfl) ?_
                 apply Exists.intro
                 refine ⟨fun wz hw _ => ?_, ?_⟩
                 · have hcz := hw.cells.1
                   exact up_load26 (by rfl) ((hcz _ _ pj2).trans a0) ((hcz _ _ pj2).trans a1)
                 simp only [Act.put, List.setIfInBounds_toArray, List.set_cons_zero, List.set_cons_succ])
                (refine Rr.wr_y (by simp only [List.getElem?_toArray, List.getElem?_cons_succ, List.getElem?_cons_zero]; rfl) (by rfl) ?_
                 apply Exists.intro
                 refine ⟨fun wz hw _ => ?_, ?_⟩
                 · have hcz := hw.cells.1
                   go_simp
                   (with_reducible exact Rg.up_value)
                 simp only [Act.put, List.setIfInBounds_toArray, List.set_cons_zero, List.set_cons_succ])
                (refine Rr.wr_y (by simp only [List.getElem?_toArray, List.getElem?_cons_succ, List.getElem?_cons_zero]; rfl) (by rfl) ?_
                 apply Exists.intro
                 refine ⟨fun wz hw _ => ?_, ?_⟩
                 · have hcz := hw.cells.1
                   go_simp
                   (with_reducible exact Rg.up_value)
                 simp only [Act.put, List.setIfInBounds_toArray, List.set_cons_zero, List.set_cons_succ])
                (refine Rr.wr_y (by simp only [List.getElem?_toArray, List.getElem?_cons_succ, List.getElem?_cons_zero]; rfl) (by rfl) ?_
                 apply Exists.intro
                 refine ⟨fun wz hw _ => ?_, ?_⟩
                 · have hcz := hw.cells.1
                   go_simp
                   (with_reducible exact Rg.up_value)
                 simp only [Act.put, List.setIfInBounds_toArray, List.set_cons_zero, List.set_cons_succ])
                (refine Rr.wr_y (by simp only [List.getElem?_toArray, List.getElem?_cons_succ, List.getElem?_cons_zero]; rfl) (by rfl) ?_
                 apply Exists.intro
                 refine ⟨fun wz hw _ => ?_, ?_⟩
                 · have hcz := hw.cells.1
                   go_simp
                   (with_reducible exact Rg.up_value)
                 simp only [Act.put, List.setIfInBounds_toArray, List.set_cons_zero, List.set_cons_succ])
                (refine Rr.wr_y (by simp only [List.getElem?_toArray, List.getElem?_cons_succ, List.getElem?_cons_zero]; rfl) (by rfl) ?_
                 apply Exists.intro
                 refine ⟨fun wz hw _ => ?_, ?_⟩
                 · have hcz := hw.cells.1
                   go_simp
                   (with_reducible exact Rg.up_value)
                 simp only [Act.put, List.setIfInBounds_toArray, List.set_cons_zero, List.set_cons_succ])
                (refine Rr.wr_y (by simp only [List.getElem?_toArray, List.getElem?_cons_succ, List.getElem?_cons_zero]; rfl) (by rfl) ?_
                 apply Exists.intro
                 refine ⟨fun wz hw _ => ?_, ?_⟩
                 · have hcz := hw.cells.1
                   go_simp
                   (with_reducible exact Rg.up_value)
                 simp only [Act.put, List.setIfInBounds_toArray, List.set_cons_zero, List.set_cons_succ])
                (refine Rr.wr_y (by simp only [List.getElem?_toArray, List.getElem?_cons_succ, List.getElem?_cons_zero]; rfl) (by rfl) ?_
                 apply Exists.intro
                 refine ⟨fun wz hw _ => ?_, ?_⟩
                 · have hcz := hw.cells.1
                   go_simp
                   (with_reducible exact Rg.up_value)
                 simp only [Act.put, List.setIfInBounds_toArray, List.set_cons_zero, List.set_cons_succ])
                (refine Rr.wr_y (by simp only [List.getElem?_toArray, List.getElem?_cons_succ, List.getElem?_cons_zero]; rfl) (by rfl) ?_
                 apply Exists.intro
                 refine ⟨fun wz hw _ => ?_, ?_⟩
                 · have hcz := hw.cells.1
                   go_simp
                   (with_reducible exact Rg.up_value)
                 simp only [Act.put, List.setIfInBounds_toArray, List.set_cons_zero, List.set_cons_succ])
                (refine Rr.wr_y (by simp only [List.getElem?_toArray, List.getElem?_cons_succ, List.getElem?_cons_zero]; rfl) (by rfl) ?_
                 apply Exists.intro
                 refine ⟨fun wz hw _ => ?_, ?_⟩
                 · have hcz := hw.cells.1
                   go_simp
                   (with_reducible exact Rg.up_value)
                 simp only [Act.put, List.setIfInBounds_toArray, List.set_cons_zero, List.set_cons_succ])
                (refine Rr.wr_y (by simp only [List.getElem?_toArray, List.getElem?_cons_succ, List.getElem?_cons_zero]; rfl) (by rfl) ?_
                 apply Exists.intro
                 refine ⟨fun wz hw _ => ?_, ?_⟩
                 · have hcz := hw.cells.1
                   go_simp
                   (with_reducible exact Rg.up_value)
                 simp only [Act.put, List.setIfInBounds_toArray, List.set_cons_zero, List.set_cons_succ])
                (refine Rr.wr_y (by simp only [List.getElem?_toArray, List.getElem?_cons_succ, List.getElem?_cons_zero]; rfl) (by rfl) ?_
                 apply Exists.intro
                 refine ⟨fun wz hw _ => ?_, ?_⟩
                 · have hcz := hw.cells.1
                   go_simp
                   (with_reducible exact Rg.up_value)
                 simp only [Act.put, List.setIfInBounds_toArray, List.set_cons_zero, List.set_cons_succ])
                (refine Rr.wr_y (by simp only [List.getElem?_toArray, List.getElem?_cons_succ, List.getElem?_cons_zero]; rfl) (by rfl) ?_
                 apply Exists.intro
                 refine ⟨fun wz hw _ => ?_, ?_⟩
                 · have hcz := hw.cells.1
                   go_simp
                   (with_reducible exact Rg.up_value)
                 simp only [Act.put, List.setIfInBounds_toArray, List.set_cons_zero, List.set_cons_succ])
                (refine Rr.wr_y (by simp only [List.getElem?_toArray, List.getElem?_cons_succ, List.getElem?_cons_zero]; rfl) (by rfl) ?_
                 apply Exists.intro
                 refine ⟨fun wz hw _ => ?_, ?_⟩
                 · have hcz := hw.cells.1
                   exact up_load26 (by rfl) ((hcz _ _ pj7).trans b0) ((hcz _ _ pj7).trans b1)
                 simp only [Act.put, List.setIfInBounds_toArray, List.set_cons_zero, List.set_cons_succ])
                (refine Rr.wr_y (by simp only [List.getElem?_toArray, List.getElem?_cons_succ, List.getElem?_cons_zero]; rfl) (by rfl) ?_
                 apply Exists.intro
                 refine ⟨fun wz hw _ => ?_, ?_⟩
                 · have hcz := hw.cells.1
                   go_simp
                   (with_reducible exact Rg.up_value)
                 simp only [Act.put, List.setIfInBounds_toArray, List.set_cons_zero, List.set_cons_succ])
                (refine Rr.wr_y (by simp only [List.getElem?_toArray, List.getElem?_cons_succ, List.getElem?_cons_zero]; rfl) (by rfl) ?_
                 apply Exists.intro
                 refine ⟨fun wz hw _ => ?_, ?_⟩
                 · have hcz := hw.cells.1
                   go_simp
                   (with_reducible exact Rg.up_value)
                 simp only [Act.put, List.setIfInBounds_toArray, List.set_cons_zero, List.set_cons_succ])
                (refine Rr.wr_y (by simp only [List.getElem?_toArray, List.getElem?_cons_succ, List.getElem?_cons_zero]; rfl) (by rfl) ?_
                 apply Exists.intro
                 refine ⟨fun wz hw _ => ?_, ?_⟩
                 · have hcz := hw.cells.1
                   go_simp
                   (with_reducible exact Rg.up_value)
                 simp only [Act.put, List.setIfInBounds_toArray, List.set_cons_zero, List.set_cons_succ])
                (refine Rr.wr_y (by simp only [List.getElem?_toArray, List.getElem?_cons_succ, List.getElem?_cons_zero]; rfl) (by rfl) ?_
                 apply Exists.intro
                 refine ⟨fun wz hw _ => ?_, ?_⟩
                 · have hcz := hw.cells.1
                   go_simp
                   (with_reducible exact Rg.up_value)
                 simp only [Act.put, List.setIfInBounds_toArray, List.set_cons_zero, List.set_cons_succ])
                (refine Rr.wr_y (by simp only [List.getElem?_toArray, List.getElem?_cons_succ, List.getElem?_cons_zero]; rfl) (by rfl) ?_
                 apply Exists.intro
                 refine ⟨fun wz hw _ => ?_, ?_⟩
                 · have hcz := hw.cells.1
                   go_simp
                   (with_reducible exact Rg.up_value)
                 simp only [Act.put, List.setIfInBounds_toArray, List.set_cons_zero, List.set_cons_succ])
                (refine Rr.wr_y (by simp only [List.getElem?_toArray, List.getElem?_cons_succ, List.getElem?_cons_zero]; rfl) (by rfl) ?_
                 apply Exists.intro
                 refine ⟨fun wz hw _ => ?_, ?_⟩
                 · have hcz := hw.cells.1
                   go_simp
                   (with_reducible exact Rg.up_value)
                 simp only [Act.put, List.setIfInBounds_toArray, List.set_cons_zero, List.set_cons_succ])
                (refine Rr.wr_y (by simp only [List.getElem?_toArray, List.getElem?_cons_succ, List.getElem?_cons_zero]; rfl) (by rfl) ?_
                 apply Exists.intro
                 refine ⟨fun wz hw _ => ?_, ?_⟩
                 · have hcz := hw.cells.1
                   go_simp
                   (with_reducible exact Rg.up_value)
                 simp only [Act.put, List.setIfInBounds_toArray, List.set_cons_zero, List.set_cons_succ])
                (refine Rr.wr_y (by simp only [List.getElem?_toArray, List.getElem?_cons_succ, List.getElem?_cons_zero]; rfl) (by rfl) ?_
                 apply Exists.intro
                 refine ⟨fun wz hw _ => ?_, ?_⟩
                 · have hcz := hw.cells.1
                   go_simp
                   (with_reducible exact Rg.up_value)
                 simp only [Act.put, List.setIfInBounds_toArray, List.set_cons_zero, List.set_cons_succ])
                (refine Rr.wr_y (by simp only [List.getElem?_toArray, List.getElem?_cons_succ, List.getElem?_cons_zero]; rfl) (by rfl) ?_
                 apply Exists.intro
                 refine ⟨fun wz hw _ => ?_, ?_⟩
                 · have hcz := hw.cells.1
                   exact up_load29 (by rfl) ((hcz _ _ p12l).trans m0) ((hcz _ _ p12l).trans m1) ((hcz _ _ p12l).trans m2) ((hcz _ _ p12l).trans m3) ((hcz _ _ p12l).trans m4)
                 simp only [Act.put, List.setIfInBounds_toArray, List.set_cons_zero, List.set_cons_succ])
                (refine Rr.wr_y (by simp only [List.getElem?_toArray, List.getElem?_cons_succ, List.getElem?_cons_zero]; rfl) (by rfl) ?_
                 apply Exists.intro
                 refine ⟨fun wz hw _ => ?_, ?_⟩
                 · have hcz := hw.cells.1
                   go_simp
                   apply Rg.up_enter
                   (with_reducible refine (num_any _ _).mono ?_)
                   rintro e w3 ⟨rfl, hb3⟩
                   exact ⟨rfl, hb3⟩
                 simp only [Act.put, List.setIfInBounds_toArray, List.set_cons_zero, List.set_cons_succ])
                (refine Rr.wr_y (by simp only [List.getElem?_toArray, List.getElem?_cons_succ, List.getElem?_cons_zero]; rfl) (by rfl) ?_
                 apply Exists.intro
                 refine ⟨fun wz hw _ => ?_, ?_⟩
                 · have hcz := hw.cells.1
                   go_simp
                   apply Rg.up_enter
                   (with_reducible refine (name_any _ _).mono ?_)
                   rintro e w3 ⟨rfl, hb3⟩
                   exact ⟨rfl, hb3⟩
                 simp only [Act.put, List.setIfInBounds_toArray, List.set_cons_zero, List.set_cons_succ])
                (refine Rr.wr_y (by simp only [List.getElem?_toArray, List.getElem?_cons_succ, List.getElem?_cons_zero]; rfl) (by rfl) ?_
                 apply Exists.intro
                 refine ⟨fun wz hw _ => ?_, ?_⟩
                 · have hcz := hw.cells.1
                   exact up_load29 (by rfl) ((hcz _ _ pj11).trans k0) ((hcz _ _ pj11).trans k1) ((hcz _ _ pj11).trans k2) ((hcz _ _ pj11).trans k3) ((hcz _ _ pj11).trans k4)
                 simp only [Act.put, List.setIfInBounds_toArray, List.set_cons_zero, List.set_cons_succ])
                refine Rr.wr_z (fun v w' => Rd All w' (opE' addB (numE (6, 1)) (nameE priceB)) v) (by simp only [List.getElem?_toArray, List.getElem?_cons_succ, List.getElem?_cons_zero]; rfl) (by rfl) (fun v w1 w2 h e => by first | exact Rd.ext e h) (fun wz hw hh => ?_) (fun u => ?_)
                · have hcz := hw.cells.1
                  go_simp
                  apply Rr.upR_enter
                  (with_reducible refine (op_any All addB (numE (6, 1)) (nameE priceB) _ _ _ (rd60 6 _) (rdN _ _) (fun _ _ => trivial)).mono ?_)
                  rintro e w3 ⟨v3, rfl, hx3, hr3⟩
                  exact ⟨v3, rfl, hx3, hr3⟩
                simp only [Act.put, List.setIfInBounds_toArray, List.set_cons_zero, List.set_cons_succ]
                refine Rr.wr_z (fun v w' => Rd All w' exT6 v) (by simp only [List.getElem?_toArray, List.getElem?_cons_succ, List.getElem?_cons_zero]; rfl) (by rfl) (fun v w1 w2 h e => by first | exact Rd.ext e h) (fun wz hw hh => ?_) (fun u => ?_)
                · have hcz := hw.cells.1
                  go_simp
                  apply Rr.upR_enter
                  (with_reducible refine (op_any All quoB (opE' addB (numE (6, 1)) (nameE priceB)) exZero _ _ _ (holds_hd hh) (HZ2.out.ext (by with_reducible repeat (first | exact Ext.refl _ | assumption | apply Ext.drewN | apply Ext.drew | apply Ext.alloc | (refine Ext.setCell ?_ (by simp <;> omega) _) | (refine Ext.trans ?_ (by assumption))))) (fun _ _ => trivial)).mono ?_)
                  rintro e w3 ⟨v3, rfl, hx3, hr3⟩
                  exact ⟨v3, rfl, hx3, hr3⟩
                simp only [Act.put, List.setIfInBounds_toArray, List.set_cons_zero, List.set_cons_succ]
                (refine Rr.wr_y (by simp only [List.getElem?_toArray, List.getElem?_cons_succ, List.getElem?_cons_zero]; rfl) (by rfl) ?_
                 apply Exists.intro
                 refine ⟨fun wz hw hh => ?_, ?_⟩
                 · have hr := holds_hd hh
                   go_simp
                   apply Rg.up_enter
                   (with_reducible refine (same_any All All 12 exT6 (by decide) _ _ _ (HR.out.ext hw) hr).mono ?_)
                   rintro e w3 ⟨rfl, hb3⟩
                   exact ⟨rfl, hb3⟩
                 simp only [Act.put, List.setIfInBounds_toArray, List.set_cons_zero, List.set_cons_succ])
                (refine Rr.wr_y (by simp only [List.getElem?_toArray, List.getElem?_cons_succ, List.getElem?_cons_zero]; rfl) (by rfl) ?_
                 apply Exists.intro
                 refine ⟨fun wz hw _ => ?_, ?_⟩
                 · have hcz := hw.cells.1
                   go_simp
                   (with_reducible exact Rg.up_value)
                 simp only [Act.put, List.setIfInBounds_toArray, List.set_cons_zero, List.set_cons_succ])
                refine Rr.wr_nil ?_
                intro wy hy hh
                simp only [List.length_cons, List.length_nil, List.drop_succ_cons, List.drop_zero, Nat.reduceAdd]
                clear hh
                go_wp2
                go_ret
                exact ⟨rfl, (by with_reducible repeat (first | exact Ext.refl _ | assumption | apply Ext.drewN | apply Ext.drew | apply Ext.alloc | (refine Ext.setCell ?_ (by simp <;> omega) _) | (refine Ext.trans ?_ (by assumption))))⟩
end Go.Proofs.Ytgkdeknfmmgbdaa
