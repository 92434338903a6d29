/-
  Joined: the lemmas of this claim that other texts of it use, part 4. Nothing is asked.
-/
import Derived.Test.YtgkdeknfmmgbdaaJnC
import Derived.Deep.Cut
import Derived.Laws.OwnMore
import Derived.Deep.AppendLies
import Derived.Deep.Onto
import Derived.Outline
namespace Go.Proofs.Ytgkdeknfmmgbdaa
set_option linter.unusedVariables false
set_option linter.unusedSimpArgs false
open Go.RowKit

abbrev All : Nat → Prop := fun _ => True
theorem rd60 (n : Int) (w : World) (h1 : -9223372036854775808 ≤ n := by decide) (h2 : n ≤ 9223372036854775807 := by decide) : Rd All w (numE (n, 1)) (leafV numB (n, 1) nilB) := Rd.leaf (I2.int h1 h2)
theorem rdN (nm : ByteArray) (w : World) : Rd All w (nameE nm) (leafV nameB (0, 0) nm) := Rd.leaf I2.zero

theorem vrd2 {w : World} {N : Nat} {a b : ByteArray} {n m : Int} (h : w.heap[N]? = some (.cells #[.string a, .int .i64 n, .string b, .int .i64 m] 51)) (hr : VR [(a, n), (b, m)]) : VRd All w [(a, n), (b, m)] (.slice (some ⟨N, 0, none⟩) 2 2) := by
  refine ⟨_, _, rfl, by simp, hr, .inr ⟨_, rfl, trivial, ?_⟩⟩
  intro k hk
  rw [cell_of_row w _ _ _ _ _ h, cell_of_row w _ _ _ _ _ h]
  match k, hk with
  | 0, _ => exact ⟨rfl, rfl⟩
  | 1, _ => exact ⟨rfl, rfl⟩
theorem vrd1 {w : World} {N : Nat} {a : ByteArray} {n : Int} (h : w.heap[N]? = some (.cells #[.string a, .int .i64 n] 51)) (hr : VR [(a, n)]) : VRd All w [(a, n)] (.slice (some ⟨N, 0, none⟩) 1 1) := by
  refine ⟨_, _, rfl, by simp, hr, .inr ⟨_, rfl, trivial, ?_⟩⟩
  intro k hk
  rw [cell_of_row w _ _ _ _ _ h, cell_of_row w _ _ _ _ _ h]
  match k, hk with
  | 0, _ => exact ⟨rfl, rfl⟩
theorem VR.one {a : ByteArray} {n : Int} (h1 : -9223372036854775808 ≤ n := by decide) (h2 : n ≤ 9223372036854775807 := by decide) : VR [(a, n)] := by
  intro x hx
  simp only [List.mem_cons, List.not_mem_nil, or_false] at hx
  subst hx
  exact ⟨h1, h2⟩
theorem VR.cons {a : ByteArray} {n : Int} {l : Vals} (h : VR l) (h1 : -9223372036854775808 ≤ n := by decide) (h2 : n ≤ 9223372036854775807 := by decide) : VR ((a, n) :: l) := by
  intro x hx
  rcases List.mem_cons.1 hx with rfl | hx
  · exact ⟨h1, h2⟩
  · exact h x hx

theorem eval_ex (vs : Vals) (t : Ex) (r : (Int × Int) × Int) (w : World) (v sl : Value) (hv : Rd All w t v) (hs : VRd All w vs sl) (h : evalI vs t = r) :
    Calls Try.prog 17 #[v, sl] w fun e w' => e = .returned (rev r) ∧ Ext w w' := by
  rw [← h]; exact eval_any All vs t w v sl hv hs

theorem holds_hd {f : World → Prop} {fs : Rr.Fs} {w : World} (h : Rr.Holds (f :: fs) w) : f w := h _ List.mem_cons_self
theorem simp_ex (w : World) (v : Value) (hv : Rd All w exT5 v) : Calls Try.prog 19 #[v] w fun e w' => ∃ v', e = .returned v' ∧ Ext w w' ∧ Rd All w' exT6 v' := by
  have h := simplify_any All All exT5 w v hv (fun _ => hv) (fun _ _ => trivial)
  rw [ex5] at h
  exact h

set_option maxRecDepth 100000 in
set_option maxHeartbeats 4000000 in
theorem sanity_any (w : World) : Calls Try.prog 13 #[] w fun e w' => e = .returned (.bool true) ∧ Ext w w' := by
  go_enter Try.func13, Try.ntmps13
  go_upto_region 2 with (fail)
  have hv : VRd All (w.alloc (.cells #[.string priceB, .int .i64 90, .string lowB, .int .i64 60] 51)) [(priceB, 90), (lowB, 60)] (.slice (some ⟨w.heap.size, 0, none⟩) 2 2) := vrd2 (block_new rfl) (VR.cons VR.one)
  have hx0 : Ext w (w.alloc (.cells #[.string priceB, .int .i64 90, .string lowB, .int .i64 60] 51)) := (by with_reducible repeat (first | exact Ext.refl _ | assumption | apply Ext.drewN | apply Ext.drew | apply Ext.alloc | (refine Ext.setCell ?_ (by simp <;> omega) _) | (refine Ext.trans ?_ (by assumption))))
  generalize w.alloc (.cells #[.string priceB, .int .i64 90, .string lowB, .int .i64 60] 51) = W at *
  have HV := Lib.hid hv
  clear hv
  go_cut [2, 3] (fun s2 s3 wx => ∃ p, s2 = .pointer (some ⟨p, 0, none⟩) ∧ s3 = .int .i64 0 ∧ wx.cell? ⟨p, 0, none⟩ = some (.int .i64 40) ∧ wx.cell? ⟨p, 1, none⟩ = some (.int .i64 1) ∧ Ext w wx)
  case first =>
    go_wp2_with (first | (go_at_call 31; (with_reducible refine (num_any _ _).mono ?_); rintro e wn ⟨rfl, hbn⟩) | (go_at_call 30; (with_reducible refine (name_any _ _).mono ?_); rintro e wm ⟨rfl, hbm⟩))
    (with_reducible refine (op_any All mulB (numE (60, 1)) (nameE lowB) _ _ _ (rd60 60 _) (rdN _ _) (fun _ _ => trivial)).mono ?_)
    rintro e w1 ⟨v1, rfl, hx1, hr1⟩
    go_wp2_with (first | (go_at_call 31; (with_reducible refine (num_any _ _).mono ?_); rintro e wn ⟨rfl, hbn⟩) | (go_at_call 30; (with_reducible refine (name_any _ _).mono ?_); rintro e wm ⟨rfl, hbm⟩))
    (with_reducible refine (op_any All quoB (opE' mulB (numE (60, 1)) (nameE lowB)) (nameE priceB) _ _ _ (hr1.ext (by with_reducible repeat (first | exact Ext.refl _ | assumption | apply Ext.drewN | apply Ext.drew | apply Ext.alloc | (refine Ext.setCell ?_ (by simp <;> omega) _) | (refine Ext.trans ?_ (by assumption))))) (rdN _ _) (fun _ _ => trivial)).mono ?_)
    rintro e w2 ⟨v2, rfl, hx2, hr2⟩
    go_wp2_with (first | (go_at_call 31; (with_reducible refine (num_any _ _).mono ?_); rintro e wn ⟨rfl, hbn⟩) | (go_at_call 30; (with_reducible refine (name_any _ _).mono ?_); rintro e wm ⟨rfl, hbm⟩))
    (with_reducible refine (eval_ex [(priceB, 90), (lowB, 60)] exT1 _ _ _ _ hr2 (HV.out.ext (by with_reducible repeat (first | exact Ext.refl _ | assumption | apply Ext.drewN | apply Ext.drew | apply Ext.alloc | (refine Ext.setCell ?_ (by simp <;> omega) _) | (refine Ext.trans ?_ (by assumption))))) ex1).mono ?_)
    rintro e w3 ⟨rfl, hx3⟩
    have hx4 : Ext w w3 := (by with_reducible repeat (first | exact Ext.refl _ | assumption | apply Ext.drewN | apply Ext.drew | apply Ext.alloc | (refine Ext.setCell ?_ (by simp <;> omega) _) | (refine Ext.trans ?_ (by assumption))))
    go_wp2
    go_meet
    case rel => exact ⟨_, rfl, rfl, by go_simp, by go_simp, (by with_reducible repeat (first | exact Ext.refl _ | assumption | apply Ext.drewN | apply Ext.drew | apply Ext.alloc | (refine Ext.setCell ?_ (by simp <;> omega) _) | (refine Ext.trans ?_ (by assumption))))⟩
  case rest =>
    obtain ⟨wd, rfl⟩ : ∃ wd : World, wd = wc := ⟨_, rfl⟩
    obtain ⟨p2, rfl, rfl, c20, c21, hxd⟩ := hcut
    clear HV hx0
    have p2l : p2 < wd.heap.size := World.block_lt_of_cell? wd _ c20
    go_upto_region 3 with (fail)
    go_cut [4, 5] (fun s4 s5 wx => s5 = .int .i64 15 ∧ Ext wd wx)
    case first =>
      go_wp2_with (first | (go_at_call 31; (with_reducible refine (num_any _ _).mono ?_); rintro e wn ⟨rfl, hbn⟩) | (go_at_call 30; (with_reducible refine (name_any _ _).mono ?_); rintro e wm ⟨rfl, hbm⟩))
      (with_reducible refine (op_any All subB (nameE priceB) (nameE lowB) _ _ _ (rdN _ _) (rdN _ _) (fun _ _ => trivial)).mono ?_)
      rintro e w1 ⟨v1, rfl, hx1, hr1⟩
      go_wp2_with (first | (go_at_call 31; (with_reducible refine (num_any _ _).mono ?_); rintro e wn ⟨rfl, hbn⟩) | (go_at_call 30; (with_reducible refine (name_any _ _).mono ?_); rintro e wm ⟨rfl, hbm⟩))
      (with_reducible refine (op_any All quoB (numE (1, 1)) (opE' subB (nameE priceB) (nameE lowB)) _ _ _ (rd60 1 _) (hr1.ext (by with_reducible repeat (first | exact Ext.refl _ | assumption | apply Ext.drewN | apply Ext.drew | apply Ext.alloc | (refine Ext.setCell ?_ (by simp <;> omega) _) | (refine Ext.trans ?_ (by assumption))))) (fun _ _ => trivial)).mono ?_)
      rintro e w2 ⟨v2, rfl, hx2, hr2⟩
      go_wp2_with (first | (go_at_call 31; (with_reducible refine (num_any _ _).mono ?_); rintro e wn ⟨rfl, hbn⟩) | (go_at_call 30; (with_reducible refine (name_any _ _).mono ?_); rintro e wm ⟨rfl, hbm⟩))
      (with_reducible refine (eval_ex [(priceB, 5), (lowB, 5)] exT2 _ _ _ _ (hr2.ext (by with_reducible repeat (first | exact Ext.refl _ | assumption | apply Ext.drewN | apply Ext.drew | apply Ext.alloc | (refine Ext.setCell ?_ (by simp <;> omega) _) | (refine Ext.trans ?_ (by assumption))))) (vrd2 (block_new rfl) (VR.cons VR.one)) ex2).mono ?_)
      rintro e w3 ⟨rfl, hx3⟩
      go_wp2
      go_meet
      case rel => exact ⟨rfl, (by with_reducible repeat (first | exact Ext.refl _ | assumption | apply Ext.drewN | apply Ext.drew | apply Ext.alloc | (refine Ext.setCell ?_ (by simp <;> omega) _) | (refine Ext.trans ?_ (by assumption))))⟩
    case rest =>
      obtain ⟨we, rfl⟩ : ∃ we : World, we = wc := ⟨_, rfl⟩
      obtain ⟨rfl, hxe⟩ := hcut
      go_upto_region 4 with (fail)
      go_cut [6] (fun s6 wx => ∃ p op n1 n2 nm base len cap, s6 = .pointer (some ⟨p, 0, none⟩) ∧ cellsE wx p 0 (at5 (.string op) (.int .i64 n1) (.int .i64 n2) (.string nm) (.slice base len cap)) ∧ Rd All wx exHalf (.agg #[.string op, .int .i64 n1, .int .i64 n2, .string nm, .slice base len cap]) ∧ Ext we wx)
      case first =>
        go_wp2_with (first | (go_at_call 31; (with_reducible refine (num_any _ _).mono ?_); rintro e wn ⟨rfl, hbn⟩) | (go_at_call 30; (with_reducible refine (name_any _ _).mono ?_); rintro e wm ⟨rfl, hbm⟩))
        (with_reducible refine (op_any All quoB (numE (1, 1)) (numE (2, 1)) _ _ _ (rd60 1 _) (rd60 2 _) (fun _ _ => trivial)).mono ?_)
        rintro e w1 ⟨v1, rfl, hx1, hr1⟩
        obtain ⟨op, n1, n2, nm, base, len, cap, rfl⟩ := hr1.form
        have HR := Lib.hid hr1
        clear hr1
        go_wp2
        go_meet
        case rel =>
          refine ⟨_, op, n1, n2, nm, base, len, cap, rfl, ?_, HR.out.ext (by with_reducible repeat (first | exact Ext.refl _ | assumption | apply Ext.drewN | apply Ext.drew | apply Ext.alloc | (refine Ext.setCell ?_ (by simp <;> omega) _) | (refine Ext.trans ?_ (by assumption)))), (by with_reducible repeat (first | exact Ext.refl _ | assumption | apply Ext.drewN | apply Ext.drew | apply Ext.alloc | (refine Ext.setCell ?_ (by simp <;> omega) _) | (refine Ext.trans ?_ (by assumption))))⟩
          intro j hj
          match j, hj with
          | 0, _ => go_simp; rfl
          | 1, _ => go_simp; rfl
          | 2, _ => go_simp; rfl
          | 3, _ => go_simp; rfl
          | 4, _ => go_simp; rfl
      case rest =>
        obtain ⟨wf, rfl⟩ : ∃ wf : World, wf = wc := ⟨_, rfl⟩
        obtain ⟨p6, oph, h1, h2, nmh, baseh, lenh, caph, rfl, c6, hrh, hxf⟩ := hcut
        have HH := Lib.hid hrh
        clear hrh
        have g0 : wf.cell? ⟨p6, 0, none⟩ = _ := c6 0 (by decide)
        have g1 : wf.cell? ⟨p6, 1, none⟩ = _ := c6 1 (by decide)
        have g2 : wf.cell? ⟨p6, 2, none⟩ = _ := c6 2 (by decide)
        have g3 : wf.cell? ⟨p6, 3, none⟩ = _ := c6 3 (by decide)
        have g4 : wf.cell? ⟨p6, 4, none⟩ = _ := c6 4 (by decide)
        simp only [at5] at g0 g1 g2 g3 g4
        clear c6
        have p6l : p6 < wf.heap.size := World.block_lt_of_cell? wf _ g0
        go_upto_region 5 with (fail)
        go_cut [7, 8] (fun s7 s8 wx => ∃ p, s7 = .pointer (some ⟨p, 0, none⟩) ∧ s8 = .int .i64 0 ∧ wx.cell? ⟨p, 0, none⟩ = some (.int .i64 1) ∧ wx.cell? ⟨p, 1, none⟩ = some (.int .i64 2) ∧ Ext wf wx)
        case first =>
          refine Rr.wp_regionE [8] [(0, .y), (1, .y), (3, .y), (2, .z), (4, .m), (5, .y), (6, .y), (7, .y), (8, .y), (9, .m)] (fun i => if i = 4 then (.cells #[.string priceB, .int .i64 3] 51, fun p => .slice (some ⟨p, 0, none⟩) 1 1) else (.cells #[.int .i64 0, .int .i64 0] 26, Rg.ptr)) (fun c a d v w h => by have h' : _ ∧ _ := h; exact ⟨(Rr.put_defers a d v).symm.trans h'.1, h'.2⟩) (by kernel_rfl) (by kernel_rfl) ?_
          (refine Rr.wr_y (by simp only [List.getElem?_toArray, List.getElem?_cons_succ, List.getElem?_cons_zero]; rfl) (by rfl) ?_
           apply Exists.intro
           refine ⟨fun wz hw _ => ?_, ?_⟩
           · have hcz := hw.cells.1
             go_simp
             apply Rg.up_enter
             (with_reducible refine (name_any _ _).mono ?_)
             rintro e w3 ⟨rfl, hb3⟩
             exact ⟨rfl, hb3⟩
           simp only [Act.put, List.setIfInBounds_toArray, List.set_cons_zero, List.set_cons_succ])
          (refine Rr.wr_y (by simp only [List.getElem?_toArray, List.getElem?_cons_succ, List.getElem?_cons_zero]; rfl) (by rfl) ?_
           apply Exists.intro
           refine ⟨fun wz hw _ => ?_, ?_⟩
           · have hcz := hw.cells.1
             exact up_load29 (by rfl) ((hcz _ _ p6l).trans g0) ((hcz _ _ p6l).trans g1) ((hcz _ _ p6l).trans g2) ((hcz _ _ p6l).trans g3) ((hcz _ _ p6l).trans g4)
           simp only [Act.put, List.setIfInBounds_toArray, List.set_cons_zero, List.set_cons_succ])
          (refine Rr.wr_y (by simp only [List.getElem?_toArray, List.getElem?_cons_succ, List.getElem?_cons_zero]; rfl) (by rfl) ?_
           apply Exists.intro
           refine ⟨fun wz hw _ => ?_, ?_⟩
           · have hcz := hw.cells.1
             go_simp
             (with_reducible exact Rg.up_value)
           simp only [Act.put, List.setIfInBounds_toArray, List.set_cons_zero, List.set_cons_succ])
          refine Rr.wr_z (fun v w' => Rd All w' exT3 v) (by simp only [List.getElem?_toArray, List.getElem?_cons_succ, List.getElem?_cons_zero]; rfl) (by rfl) (fun v w1 w2 h e => by first | exact Rd.ext e h | exact h.ext e) (fun wz hw hh => ?_) (fun u => ?_)
          · have hcz := hw.cells.1
            go_simp
            apply Rr.upR_enter
            (with_reducible refine (op_any All minB (nameE priceB) exHalf _ _ _ (rdN _ _) (HH.out.ext (by with_reducible repeat (first | exact Ext.refl _ | assumption | apply Ext.drewN | apply Ext.drew | apply Ext.alloc | (refine Ext.setCell ?_ (by simp <;> omega) _) | (refine Ext.trans ?_ (by assumption))))) (fun _ _ => trivial)).mono ?_)
            rintro e w3 ⟨v3, rfl, hx3, hr3⟩
            exact ⟨v3, rfl, hx3, hr3⟩
          simp only [Act.put, List.setIfInBounds_toArray, List.set_cons_zero, List.set_cons_succ]
          refine Rr.wr_m (by simp only [List.getElem?_toArray, List.getElem?_cons_succ, List.getElem?_cons_zero]; rfl) (by rfl) (fun wz => by go_simp) (fun p hp => ?_)
          simp only [Act.put, List.setIfInBounds_toArray, List.set_cons_zero, List.set_cons_succ]
          (refine Rr.wr_y (by simp only [List.getElem?_toArray, List.getElem?_cons_succ, List.getElem?_cons_zero]; rfl) (by rfl) ?_
           apply Exists.intro
           refine ⟨fun wz hw hh => ?_, ?_⟩
           · have hcz := hw.cells.1
             have hr := hh _ (List.mem_cons_of_mem _ List.mem_cons_self)
             have hb : wz.heap[p]? = some (.cells #[.string priceB, .int .i64 3] 51) := (hh _ List.mem_cons_self).2
             go_simp
             apply Rg.up_enter
             (with_reducible refine (eval_ex [(priceB, 3)] exT3 _ _ _ _ hr (vrd1 hb VR.one) ex3).mono ?_)
             rintro e w3 ⟨rfl, hb3⟩
             exact ⟨rfl, hb3⟩
           simp only [Act.put, List.setIfInBounds_toArray, List.set_cons_zero, List.set_cons_succ])
          (refine Rr.wr_y (by simp only [List.getElem?_toArray, List.getElem?_cons_succ, List.getElem?_cons_zero]; rfl) (by rfl) ?_
           apply Exists.intro
           refine ⟨fun wz hw _ => ?_, ?_⟩
           · have hcz := hw.cells.1
             go_simp
             (with_reducible exact Rg.up_value)
           simp only [Act.put, List.setIfInBounds_toArray, List.set_cons_zero, List.set_cons_succ])
          (refine Rr.wr_y (by simp only [List.getElem?_toArray, List.getElem?_cons_succ, List.getElem?_cons_zero]; rfl) (by rfl) ?_
           apply Exists.intro
           refine ⟨fun wz hw _ => ?_, ?_⟩
           · have hcz := hw.cells.1
             go_simp
             (with_reducible exact Rg.up_value)
           simp only [Act.put, List.setIfInBounds_toArray, List.set_cons_zero, List.set_cons_succ])
          (refine Rr.wr_y (by simp only [List.getElem?_toArray, List.getElem?_cons_succ, List.getElem?_cons_zero]; rfl) (by rfl) ?_
           apply Exists.intro
           refine ⟨fun wz hw _ => ?_, ?_⟩
           · have hcz := hw.cells.1
             go_simp
             (with_reducible exact Rg.up_value)
           simp only [Act.put, List.setIfInBounds_toArray, List.set_cons_zero, List.set_cons_succ])
          refine Rr.wr_m (by simp only [List.getElem?_toArray, List.getElem?_cons_succ, List.getElem?_cons_zero]; rfl) (by rfl) (fun wz => by go_simp) (fun q hq => ?_)
          simp only [Act.put, List.setIfInBounds_toArray, List.set_cons_zero, List.set_cons_succ]
          refine Rr.wr_nil ?_
          intro wy hy hh
          have hq1 := hh _ List.mem_cons_self
          obtain ⟨q1, q2⟩ := hq1
          obtain ⟨cq, fq, lq⟩ := Rg.cells_of q2
          simp only [List.length_cons, List.length_nil, List.drop_succ_cons, List.drop_zero, Nat.reduceAdd]
          clear hh
          go_wp2
          go_meet
          case rel => exact ⟨_, rfl, rfl, by go_simp, by go_simp, (by with_reducible repeat (first | exact Ext.refl _ | assumption | apply Ext.drewN | apply Ext.drew | apply Ext.alloc | (refine Ext.setCell ?_ (by simp <;> omega) _) | (refine Ext.trans ?_ (by assumption))))⟩
        case rest =>
          obtain ⟨wg, rfl⟩ : ∃ wg : World, wg = wc := ⟨_, rfl⟩
          obtain ⟨p7, rfl, rfl, c70, c71, hxg⟩ := hcut
          go_upto_region 6 with (fail)
          go_cut [9, 10] (fun s9 s10 wx => s10 = .int .i64 13 ∧ Ext wg wx)
          case first =>
            go_wp2_with (first | (go_at_call 31; (with_reducible refine (num_any _ _).mono ?_); rintro e wn ⟨rfl, hbn⟩) | (go_at_call 30; (with_reducible refine (name_any _ _).mono ?_); rintro e wm ⟨rfl, hbm⟩))
            (with_reducible refine (op_any All addB (nameE qualB) (numE (1, 1)) _ _ _ (rdN _ _) (rd60 1 _) (fun _ _ => trivial)).mono ?_)
            rintro e w1 ⟨v1, rfl, hx1, hr1⟩
            go_wp2_with (first | (go_at_call 31; (with_reducible refine (num_any _ _).mono ?_); rintro e wn ⟨rfl, hbn⟩) | (go_at_call 30; (with_reducible refine (name_any _ _).mono ?_); rintro e wm ⟨rfl, hbm⟩))
            (with_reducible refine (eval_ex [(priceB, 3)] exT4 _ _ _ _ (hr1.ext (by with_reducible repeat (first | exact Ext.refl _ | assumption | apply Ext.drewN | apply Ext.drew | apply Ext.alloc | (refine Ext.setCell ?_ (by simp <;> omega) _) | (refine Ext.trans ?_ (by assumption))))) (vrd1 (block_new rfl) VR.one) ex4).mono ?_)
            rintro e w3 ⟨rfl, hx3⟩
            go_wp2
            go_meet
            case rel => exact ⟨rfl, (by with_reducible repeat (first | exact Ext.refl _ | assumption | apply Ext.drewN | apply Ext.drew | apply Ext.alloc | (refine Ext.setCell ?_ (by simp <;> omega) _) | (refine Ext.trans ?_ (by assumption))))⟩
          case rest =>
            obtain ⟨wh, rfl⟩ : ∃ wh : World, wh = wc := ⟨_, rfl⟩
            obtain ⟨rfl, hxh⟩ := hcut
            go_upto_region 7 with (fail)
            go_cut [11] (fun s11 wx => ∃ p op n1 n2 nm base len cap, s11 = .pointer (some ⟨p, 0, none⟩) ∧ cellsE wx p 0 (at5 (.string op) (.int .i64 n1) (.int .i64 n2) (.string nm) (.slice base len cap)) ∧ Rd All wx exZero (.agg #[.string op, .int .i64 n1, .int .i64 n2, .string nm, .slice base len cap]) ∧ Ext wh wx)
            case first =>
              go_wp2_with (first | (go_at_call 31; (with_reducible refine (num_any _ _).mono ?_); rintro e wn ⟨rfl, hbn⟩) | (go_at_call 30; (with_reducible refine (name_any _ _).mono ?_); rintro e wm ⟨rfl, hbm⟩))
              (with_reducible refine (op_any All quoB (numE (1, 1)) (numE (0, 1)) _ _ _ (rd60 1 _) (rd60 0 _) (fun _ _ => trivial)).mono ?_)
              rintro e w1 ⟨v1, rfl, hx1, hr1⟩
              obtain ⟨op, n1, n2, nm, base, len, cap, rfl⟩ := hr1.form
              have HR := Lib.hid hr1
              clear hr1
              go_wp2
              go_meet
              case rel =>
                refine ⟨_, op, n1, n2, nm, base, len, cap, rfl, ?_, HR.out.ext (by with_reducible repeat (first | exact Ext.refl _ | assumption | apply Ext.drewN | apply Ext.drew | apply Ext.alloc | (refine Ext.setCell ?_ (by simp <;> omega) _) | (refine Ext.trans ?_ (by assumption)))), (by with_reducible repeat (first | exact Ext.refl _ | assumption | apply Ext.drewN | apply Ext.drew | apply Ext.alloc | (refine Ext.setCell ?_ (by simp <;> omega) _) | (refine Ext.trans ?_ (by assumption))))⟩
                intro j hj
                match j, hj with
                | 0, _ => go_simp; rfl
                | 1, _ => go_simp; rfl
                | 2, _ => go_simp; rfl
                | 3, _ => go_simp; rfl
                | 4, _ => go_simp; rfl
            case rest =>
              obtain ⟨wi, rfl⟩ : ∃ wi : World, wi = wc := ⟨_, rfl⟩
              obtain ⟨p11, opz, z1, z2, nmz, basez, lenz, capz, rfl, c11, hrz, hxi⟩ := hcut
              have HZ := Lib.hid hrz
              clear hrz
              have l0 : wi.cell? ⟨p11, 0, none⟩ = _ := c11 0 (by decide)
              have l1 : wi.cell? ⟨p11, 1, none⟩ = _ := c11 1 (by decide)
              have l2 : wi.cell? ⟨p11, 2, none⟩ = _ := c11 2 (by decide)
              have l3 : wi.cell? ⟨p11, 3, none⟩ = _ := c11 3 (by decide)
              have l4 : wi.cell? ⟨p11, 4, none⟩ = _ := c11 4 (by decide)
              simp only [at5] at l0 l1 l2 l3 l4
              clear c11
              have p11l : p11 < wi.heap.size := World.block_lt_of_cell? wi _ l0
              go_upto_region 8 with (fail)
              go_cut [12] (fun s12 wx => ∃ p op n1 n2 nm base len cap, s12 = .pointer (some ⟨p, 0, none⟩) ∧ cellsE wx p 0 (at5 (.string op) (.int .i64 n1) (.int .i64 n2) (.string nm) (.slice base len cap)) ∧ Rd All wx exT6 (.agg #[.string op, .int .i64 n1, .int .i64 n2, .string nm, .slice base len cap]) ∧ Ext wi wx)
              case first =>
                refine Rr.wp_region [(0, .y), (1, .y), (5, .y), (2, .z), (3, .y), (4, .z), (6, .z), (7, .z), (8, .m)] (fun _ => (.cells #[.string ⟨#[]⟩, .int .i64 0, .int .i64 0, .string ⟨#[]⟩, .slice none 0 0] 29, Rg.ptr)) (by kernel_rfl) (by kernel_rfl) ?_
                (refine Rr.wr_y (by simp only [List.getElem?_toArray, List.getElem?_cons_succ, List.getElem?_cons_zero]; rfl) (by rfl) ?_
                 apply Exists.intro
                 refine ⟨fun wz hw _ => ?_, ?_⟩
                 · have hcz := hw.cells.1
                   go_simp
                   apply Rg.up_enter
                   (with_reducible refine (num_any _ _).mono ?_)
                   rintro e w3 ⟨rfl, hb3⟩
                   exact ⟨rfl, hb3⟩
                 simp only [Act.put, List.setIfInBounds_toArray, List.set_cons_zero, List.set_cons_succ])
                (refine Rr.wr_y (by simp only [List.getElem?_toArray, List.getElem?_cons_succ, List.getElem?_cons_zero]; rfl) (by rfl) ?_
                 apply Exists.intro
                 refine ⟨fun wz hw _ => ?_, ?_⟩
                 · have hcz := hw.cells.1
                   go_simp
                   apply Rg.up_enter
                   (with_reducible refine (num_any _ _).mono ?_)
                   rintro e w3 ⟨rfl, hb3⟩
                   exact ⟨rfl, hb3⟩
                 simp only [Act.put, List.setIfInBounds_toArray, List.set_cons_zero, List.set_cons_succ])
                (refine Rr.wr_y (by simp only [List.getElem?_toArray, List.getElem?_cons_succ, List.getElem?_cons_zero]; rfl) (by rfl) ?_
                 apply Exists.intro
                 refine ⟨fun wz hw _ => ?_, ?_⟩
                 · have hcz := hw.cells.1
                   exact up_load29 (by rfl) ((hcz _ _ p11l).trans l0) ((hcz _ _ p11l).trans l1) ((hcz _ _ p11l).trans l2) ((hcz _ _ p11l).trans l3) ((hcz _ _ p11l).trans l4)
                 simp only [Act.put, List.setIfInBounds_toArray, List.set_cons_zero, List.set_cons_succ])
                refine Rr.wr_z (fun v w' => Rd All w' (opE' mulB (numE (2, 1)) (numE (3, 1))) v) (by simp only [List.getElem?_toArray, List.getElem?_cons_succ, List.getElem?_cons_zero]; rfl) (by rfl) (fun v w1 w2 h e => by first | exact Rd.ext e h | exact h.ext e) (fun wz hw hh => ?_) (fun u => ?_)
                · have hcz := hw.cells.1
                  go_simp
                  apply Rr.upR_enter
                  (with_reducible refine (op_any All mulB (numE (2, 1)) (numE (3, 1)) _ _ _ (rd60 2 _) (rd60 3 _) (fun _ _ => trivial)).mono ?_)
                  rintro e w3 ⟨v3, rfl, hx3, hr3⟩
                  exact ⟨v3, rfl, hx3, hr3⟩
                simp only [Act.put, List.setIfInBounds_toArray, List.set_cons_zero, List.set_cons_succ]
                (refine Rr.wr_y (by simp only [List.getElem?_toArray, List.getElem?_cons_succ, List.getElem?_cons_zero]; rfl) (by rfl) ?_
                 apply Exists.intro
                 refine ⟨fun wz hw _ => ?_, ?_⟩
                 · have hcz := hw.cells.1
                   go_simp
                   apply Rg.up_enter
                   (with_reducible refine (name_any _ _).mono ?_)
                   rintro e w3 ⟨rfl, hb3⟩
                   exact ⟨rfl, hb3⟩
                 simp only [Act.put, List.setIfInBounds_toArray, List.set_cons_zero, List.set_cons_succ])
                refine Rr.wr_z (fun v w' => Rd All w' (opE' addB (opE' mulB (numE (2, 1)) (numE (3, 1))) (nameE priceB)) v) (by simp only [List.getElem?_toArray, List.getElem?_cons_succ, List.getElem?_cons_zero]; rfl) (by rfl) (fun v w1 w2 h e => by first | exact Rd.ext e h | exact h.ext e) (fun wz hw hh => ?_) (fun u => ?_)
                · have hcz := hw.cells.1
                  go_simp
                  apply Rr.upR_enter
                  (with_reducible refine (op_any All addB (opE' mulB (numE (2, 1)) (numE (3, 1))) (nameE priceB) _ _ _ (holds_hd hh) (rdN _ _) (fun _ _ => trivial)).mono ?_)
                  rintro e w3 ⟨v3, rfl, hx3, hr3⟩
                  exact ⟨v3, rfl, hx3, hr3⟩
                simp only [Act.put, List.setIfInBounds_toArray, List.set_cons_zero, List.set_cons_succ]
                refine Rr.wr_z (fun v w' => Rd All w' exT5 v) (by simp only [List.getElem?_toArray, List.getElem?_cons_succ, List.getElem?_cons_zero]; rfl) (by rfl) (fun v w1 w2 h e => by first | exact Rd.ext e h | exact h.ext e) (fun wz hw hh => ?_) (fun u => ?_)
                · have hcz := hw.cells.1
                  go_simp
                  apply Rr.upR_enter
                  (with_reducible refine (op_any All quoB (opE' addB (opE' mulB (numE (2, 1)) (numE (3, 1))) (nameE priceB)) exZero _ _ _ (holds_hd hh) (HZ.out.ext (by with_reducible repeat (first | exact Ext.refl _ | assumption | apply Ext.drewN | apply Ext.drew | apply Ext.alloc | (refine Ext.setCell ?_ (by simp <;> omega) _) | (refine Ext.trans ?_ (by assumption))))) (fun _ _ => trivial)).mono ?_)
                  rintro e w3 ⟨v3, rfl, hx3, hr3⟩
                  exact ⟨v3, rfl, hx3, hr3⟩
                simp only [Act.put, List.setIfInBounds_toArray, List.set_cons_zero, List.set_cons_succ]
                refine Rr.wr_z (fun v w' => Rd All w' exT6 v) (by simp only [List.getElem?_toArray, List.getElem?_cons_succ, List.getElem?_cons_zero]; rfl) (by rfl) (fun v w1 w2 h e => by first | exact Rd.ext e h | exact h.ext e) (fun wz hw hh => ?_) (fun u => ?_)
                · have hcz := hw.cells.1
                  go_simp
                  apply Rr.upR_enter
                  (with_reducible refine (simp_ex _ _ (holds_hd hh)).mono ?_)
                  rintro e w3 ⟨v3, rfl, hx3, hr3⟩
                  exact ⟨v3, rfl, hx3, hr3⟩
                simp only [Act.put, List.setIfInBounds_toArray, List.set_cons_zero, List.set_cons_succ]
                refine Rr.wr_m (by simp only [List.getElem?_toArray, List.getElem?_cons_succ, List.getElem?_cons_zero]; rfl) (by rfl) (fun wz => by go_simp) (fun q hq => ?_)
                simp only [Act.put, List.setIfInBounds_toArray, List.set_cons_zero, List.set_cons_succ]
                refine Rr.wr_nil ?_
                intro wy hy hh
                have hq1 := hh _ List.mem_cons_self
                have hr := hh _ (List.mem_cons_of_mem _ List.mem_cons_self)
                obtain ⟨op, n1, n2, nm, base, len, cap, hform⟩ := Rd.form hr
                subst hform
                have HR := Lib.hid hr
                obtain ⟨q1, q2⟩ := hq1
                obtain ⟨cq, fq, lq⟩ := Rg.cells_of q2
                simp only [List.length_cons, List.length_nil, List.drop_succ_cons, List.drop_zero, Nat.reduceAdd]
                clear hh hr
                go_wp2
                go_meet
                case rel =>
                  have far : ∀ b o, ¬ b = q → b < wy.heap.size → (((((wy.setCell ⟨q, 0, none⟩ (.string op)).setCell ⟨q, 1, none⟩ (.int .i64 n1)).setCell ⟨q, 2, none⟩ (.int .i64 n2)).setCell ⟨q, 3, none⟩ (.string nm)).setCell ⟨q, 4, none⟩ (.slice base len cap)).cell? ⟨b, o, none⟩ = wy.cell? ⟨b, o, none⟩ := by
                    intro b o h1 h2
                    have h3 : ¬ q = b := fun e => h1 e.symm
                    go_simp
                  refine ⟨_, op, n1, n2, nm, base, len, cap, rfl, ?_, Rd.past rfl HR.out (cq 5) far, (by with_reducible repeat (first | exact Ext.refl _ | assumption | apply Ext.drewN | apply Ext.drew | apply Ext.alloc | (refine Ext.setCell ?_ (by simp <;> omega) _) | (refine Ext.trans ?_ (by assumption))))⟩
                  intro j hj
                  match j, hj with
                  | 0, _ => go_simp; rfl
                  | 1, _ => go_simp; rfl
                  | 2, _ => go_simp; rfl
                  | 3, _ => go_simp; rfl
                  | 4, _ => go_simp; rfl
              case rest =>
                obtain ⟨wj, rfl⟩ : ∃ wj : World, wj = wc := ⟨_, rfl⟩
                obtain ⟨p12, opr, r1, r2, nmr, baser, lenr, capr, rfl, c12, hrr, hxj⟩ := hcut
                have HR := Lib.hid hrr
                clear hrr
                have m0 : wj.cell? ⟨p12, 0, none⟩ = _ := c12 0 (by decide)
                have m1 : wj.cell? ⟨p12, 1, none⟩ = _ := c12 1 (by decide)
                have m2 : wj.cell? ⟨p12, 2, none⟩ = _ := c12 2 (by decide)
                have m3 : wj.cell? ⟨p12, 3, none⟩ = _ := c12 3 (by decide)
                have m4 : wj.cell? ⟨p12, 4, none⟩ = _ := c12 4 (by decide)
                simp only [at5] at m0 m1 m2 m3 m4
                clear c12
                have p12l : p12 < wj.heap.size := World.block_lt_of_cell? wj _ m0
                have xij : Ext wi wj := hxj
                have xgj : Ext wg wj := (by with_reducible repeat (first | exact Ext.refl _ | assumption | apply Ext.drewN | apply Ext.drew | apply Ext.alloc | (refine Ext.setCell ?_ (by simp <;> omega) _) | (refine Ext.trans ?_ (by assumption))))
                have xdj : Ext wd wj := (by with_reducible repeat (first | exact Ext.refl _ | assumption | apply Ext.drewN | apply Ext.drew | apply Ext.alloc | (refine Ext.setCell ?_ (by simp <;> omega) _) | (refine Ext.trans ?_ (by assumption))))
                have p7l : p7 < wg.heap.size := World.block_lt_of_cell? wg _ c70
                have a0 := (xdj.cells.1 p2 0 p2l).trans c20
                have a1 := (xdj.cells.1 p2 1 p2l).trans c21
                have b0 := (xgj.cells.1 p7 0 p7l).trans c70
                have b1 := (xgj.cells.1 p7 1 p7l).trans c71
                have k0 := (xij.cells.1 p11 0 p11l).trans l0
                have k1 := (xij.cells.1 p11 1 p11l).trans l1
                have k2 := (xij.cells.1 p11 2 p11l).trans l2
                have k3 := (xij.cells.1 p11 3 p11l).trans l3
                have k4 := (xij.cells.1 p11 4 p11l).trans l4
                have pj2 : p2 < wj.heap.size := Nat.lt_of_lt_of_le p2l xdj.size
                have pj7 : p7 < wj.heap.size := Nat.lt_of_lt_of_le p7l xgj.size
                have pj11 : p11 < wj.heap.size := Nat.lt_of_lt_of_le p11l xij.size
                have HZ2 := Lib.hid (HZ.out.ext xij)
                have hxx : Ext w wj := (by with_reducible repeat (first | exact Ext.refl _ | assumption | apply Ext.drewN | apply Ext.drew | apply Ext.alloc | (refine Ext.setCell ?_ (by simp <;> omega) _) | (refine Ext.trans ?_ (by assumption))))
                go_upto_region 9 with (fail)
                refine Rr.wp_region ((List.range 28).map (fun i => (i, .y)) ++ [(29, .y), (28, .z), (30, .z), (31, .y), (32, .y)]) (fun _ => (.cells #[] 29, Rg.ptr)) (by kernel_rfl) (by kernel_rfl) ?_
                simp only [List.range, List.range.loop, List.map_cons, List.map_nil, List.cons_append, List.nil_append]
                (refine Rr.wr_y (by simp only [List.getElem?_toArray, List.getElem?_cons_succ, List.getElem?_cons_zero]; rfl) (by rfl) ?_
                 apply Exists.intro
                 refine ⟨fun wz hw _ => ?_, ?_⟩
                 · have hcz := hw.cells.1
                   go_simp
                   (with_reducible exact Rg.up_value)
                 simp only [Act.put, List.setIfInBounds_toArray, List.set_cons_zero, List.set_cons_succ])
                (refine Rr.wr_y (by simp only [List.getElem?_toArray, List.getElem?_cons_succ, List.getElem?_cons_zero]; rfl) (by rfl) ?_
                 apply Exists.intro
                 refine ⟨fun wz hw _ => ?_, ?_⟩
                 · have hcz := hw.cells.1
                   go_simp
                   (with_reducible exact Rg.up_value)
                 simp only [Act.put, List.setIfInBounds_toArray, List.set_cons_zero, List.set_cons_succ])
                (refine Rr.wr_y (by simp only [List.getElem?_toArray, List.getElem?_cons_succ, List.getElem?_cons_zero]; rfl) (by rfl) ?_
                 apply Exists.intro
                 refine ⟨fun wz hw _ => ?_, ?_⟩
                 · have hcz := hw.cells.1
                   go_simp
                   (with_reducible exact Rg.up_value)
                 simp only [Act.put, List.setIfInBounds_toArray, List.set_cons_zero, List.set_cons_succ])
                (refine Rr.wr_y (by simp only [List.getElem?_toArray, List.getElem?_cons_succ, List.getElem?_cons_zero]; rfl) (by rfl) ?_
                 apply Exists.intro
                 refine ⟨fun wz hw _ => ?_, ?_⟩
                 · have hcz := hw.cells.1
                   exact up_load26 (by rfl) ((hcz _ _ pj2).trans a0) ((hcz _ _ pj2).trans a1)
                 simp only [Act.put, List.setIfInBounds_toArray, List.set_cons_zero, List.set_cons_succ])
                (refine Rr.wr_y (by simp only [List.getElem?_toArray, List.getElem?_cons_succ, List.getElem?_cons_zero]; rfl) (by rfl) ?_
                 apply Exists.intro
                 refine ⟨fun wz hw _ => ?_, ?_⟩
                 · have hcz := hw.cells.1
                   go_simp
                   (with_reducible exact Rg.up_value)
                 simp only [Act.put, List.setIfInBounds_toArray, List.set_cons_zero, List.set_cons_succ])
                (refine Rr.wr_y (by simp only [List.getElem?_toArray, List.getElem?_cons_succ, List.getElem?_cons_zero]; rfl) (by rfl) ?_
                 apply Exists.intro
                 refine ⟨fun wz hw _ => ?_, ?_⟩
                 · have hcz := hw.cells.1
                   go_simp
                   (with_reducible exact Rg.up_value)
                 simp only [Act.put, List.setIfInBounds_toArray, List.set_cons_zero, List.set_cons_succ])
                (refine Rr.wr_y (by simp only [List.getElem?_toArray, List.getElem?_cons_succ, List.getElem?_cons_zero]; rfl) (by rfl) ?_
                 apply Exists.intro
                 refine ⟨fun wz hw _ => ?_, ?_⟩
                 · have hcz := hw.cells.1
                   go_simp
                   (with_reducible exact Rg.up_value)
                 simp only [Act.put, List.setIfInBounds_toArray, List.set_cons_zero, List.set_cons_succ])
                (refine Rr.wr_y (by simp only [List.getElem?_toArray, List.getElem?_cons_succ, List.getElem?_cons_zero]; rfl) (by rfl) ?_
                 apply Exists.intro
                 refine ⟨fun wz hw _ => ?_, ?_⟩
                 · have hcz := hw.cells.1
                   go_simp
                   (with_reducible exact Rg.up_value)
                 simp only [Act.put, List.setIfInBounds_toArray, List.set_cons_zero, List.set_cons_succ])
                (refine Rr.wr_y (by simp only [List.getElem?_toArray, List.getElem?_cons_succ, List.getElem?_cons_zero]; rfl) (by rfl) ?_
                 apply Exists.intro
                 refine ⟨fun wz hw _ => ?_, ?_⟩
                 · have hcz := hw.cells.1
                   go_simp
                   (with_reducible exact Rg.up_value)
                 simp only [Act.put, List.setIfInBounds_toArray, List.set_cons_zero, List.set_cons_succ])
                (refine Rr.wr_y (by simp only [List.getElem?_toArray, List.getElem?_cons_succ, List.getElem?_cons_zero]; rfl) (by rfl) ?_
                 apply Exists.intro
                 refine ⟨fun wz hw _ => ?_, ?_⟩
                 · have hcz := hw.cells.1
                   go_simp
                   (with_reducible exact Rg.up_value)
                 simp only [Act.put, List.setIfInBounds_toArray, List.set_cons_zero, List.set_cons_succ])
                (refine Rr.wr_y (by simp only [List.getElem?_toArray, List.getElem?_cons_succ, List.getElem?_cons_zero]; rfl) (by rfl) ?_
                 apply Exists.intro
                 refine ⟨fun wz hw _ => ?_, ?_⟩
                 · have hcz := hw.cells.1
                   go_simp
                   (with_reducible exact Rg.up_value)
                 simp only [Act.put, List.setIfInBounds_toArray, List.set_cons_zero, List.set_cons_succ])
                (refine Rr.wr_y (by simp only [List.getElem?_toArray, List.getElem?_cons_succ, List.getElem?_cons_zero]; rfl) (by rfl) ?_
                 apply Exists.intro
                 refine ⟨fun wz hw _ => ?_, ?_⟩
                 · have hcz := hw.cells.1
                   go_simp
                   (with_reducible exact Rg.up_value)
                 simp only [Act.put, List.setIfInBounds_toArray, List.set_cons_zero, List.set_cons_succ])
                (refine Rr.wr_y (by simp only [List.getElem?_toArray, List.getElem?_cons_succ, List.getElem?_cons_zero]; rfl) (by rfl) ?_
                 apply Exists.intro
                 refine ⟨fun wz hw _ => ?_, ?_⟩
                 · have hcz := hw.cells.1
                   go_simp
                   (with_reducible exact Rg.up_value)
                 simp only [Act.put, List.setIfInBounds_toArray, List.set_cons_zero, List.set_cons_succ])
                (refine Rr.wr_y (by simp only [List.getElem?_toArray, List.getElem?_cons_succ, List.getElem?_cons_zero]; rfl) (by rfl) ?_
                 apply Exists.intro
                 refine ⟨fun wz hw _ => ?_, ?_⟩
                 · have hcz := hw.cells.1
                   go_simp
                   (with_reducible exact Rg.up_value)
                 simp only [Act.put, List.setIfInBounds_toArray, List.set_cons_zero, List.set_cons_succ])
                (refine Rr.wr_y (by simp only [List.getElem?_toArray, List.getElem?_cons_succ, List.getElem?_cons_zero]; rfl) (by rfl) ?_
                 apply Exists.intro
                 refine ⟨fun wz hw _ => ?_, ?_⟩
                 · have hcz := hw.cells.1
                   go_simp
                   (with_reducible exact Rg.up_value)
                 simp only [Act.put, List.setIfInBounds_toArray, List.set_cons_zero, List.set_cons_succ])
                (refine Rr.wr_y (by simp only [List.getElem?_toArray, List.getElem?_cons_succ, List.getElem?_cons_zero]; rfl) (by rfl) ?_
                 apply Exists.intro
                 refine ⟨fun wz hw _ => ?_, ?_⟩
                 · have hcz := hw.cells.1
                   go_simp
                   (with_reducible exact Rg.up_value)
                 simp only [Act.put, List.setIfInBounds_toArray, List.set_cons_zero, List.set_cons_succ])
                (refine Rr.wr_y (by simp only [List.getElem?_toArray, List.getElem?_cons_succ, List.getElem?_cons_zero]; rfl) (by rfl) ?_
                 apply Exists.intro
                 refine ⟨fun wz hw _ => ?_, ?_⟩
                 · have hcz := hw.cells.1
                   exact up_load26 (by rfl) ((hcz _ _ pj7).trans b0) ((hcz _ _ pj7).trans b1)
                 simp only [Act.put, List.setIfInBounds_toArray, List.set_cons_zero, List.set_cons_succ])
                (refine Rr.wr_y (by simp only [List.getElem?_toArray, List.getElem?_cons_succ, List.getElem?_cons_zero]; rfl) (by rfl) ?_
                 apply Exists.intro
                 refine ⟨fun wz hw _ => ?_, ?_⟩
                 · have hcz := hw.cells.1
                   go_simp
                   (with_reducible exact Rg.up_value)
                 simp only [Act.put, List.setIfInBounds_toArray, List.set_cons_zero, List.set_cons_succ])
                (refine Rr.wr_y (by simp only [List.getElem?_toArray, List.getElem?_cons_succ, List.getElem?_cons_zero]; rfl) (by rfl) ?_
                 apply Exists.intro
                 refine ⟨fun wz hw _ => ?_, ?_⟩
                 · have hcz := hw.cells.1
                   go_simp
                   (with_reducible exact Rg.up_value)
                 simp only [Act.put, List.setIfInBounds_toArray, List.set_cons_zero, List.set_cons_succ])
                (refine Rr.wr_y (by simp only [List.getElem?_toArray, List.getElem?_cons_succ, List.getElem?_cons_zero]; rfl) (by rfl) ?_
                 apply Exists.intro
                 refine ⟨fun wz hw _ => ?_, ?_⟩
                 · have hcz := hw.cells.1
                   go_simp
                   (with_reducible exact Rg.up_value)
                 simp only [Act.put, List.setIfInBounds_toArray, List.set_cons_zero, List.set_cons_succ])
                (refine Rr.wr_y (by simp only [List.getElem?_toArray, List.getElem?_cons_succ, List.getElem?_cons_zero]; rfl) (by rfl) ?_
                 apply Exists.intro
                 refine ⟨fun wz hw _ => ?_, ?_⟩
                 · have hcz := hw.cells.1
                   go_simp
                   (with_reducible exact Rg.up_value)
                 simp only [Act.put, List.setIfInBounds_toArray, List.set_cons_zero, List.set_cons_succ])
                (refine Rr.wr_y (by simp only [List.getElem?_toArray, List.getElem?_cons_succ, List.getElem?_cons_zero]; rfl) (by rfl) ?_
                 apply Exists.intro
                 refine ⟨fun wz hw _ => ?_, ?_⟩
                 · have hcz := hw.cells.1
                   go_simp
                   (with_reducible exact Rg.up_value)
                 simp only [Act.put, List.setIfInBounds_toArray, List.set_cons_zero, List.set_cons_succ])
                (refine Rr.wr_y (by simp only [List.getElem?_toArray, List.getElem?_cons_succ, List.getElem?_cons_zero]; rfl) (by rfl) ?_
                 apply Exists.intro
                 refine ⟨fun wz hw _ => ?_, ?_⟩
                 · have hcz := hw.cells.1
                   go_simp
                   (with_reducible exact Rg.up_value)
                 simp only [Act.put, List.setIfInBounds_toArray, List.set_cons_zero, List.set_cons_succ])
                (refine Rr.wr_y (by simp only [List.getElem?_toArray, List.getElem?_cons_succ, List.getElem?_cons_zero]; rfl) (by rfl) ?_
                 apply Exists.intro
                 refine ⟨fun wz hw _ => ?_, ?_⟩
                 · have hcz := hw.cells.1
                   go_simp
                   (with_reducible exact Rg.up_value)
                 simp only [Act.put, List.setIfInBounds_toArray, List.set_cons_zero, List.set_cons_succ])
                (refine Rr.wr_y (by simp only [List.getElem?_toArray, List.getElem?_cons_succ, List.getElem?_cons_zero]; rfl) (by rfl) ?_
                 apply Exists.intro
                 refine ⟨fun wz hw _ => ?_, ?_⟩
                 · have hcz := hw.cells.1
                   go_simp
                   (with_reducible exact Rg.up_value)
                 simp only [Act.put, List.setIfInBounds_toArray, List.set_cons_zero, List.set_cons_succ])
                (refine Rr.wr_y (by simp only [List.getElem?_toArray, List.getElem?_cons_succ, List.getElem?_cons_zero]; rfl) (by rfl) ?_
                 apply Exists.intro
                 refine ⟨fun wz hw _ => ?_, ?_⟩
                 · have hcz := hw.cells.1
                   exact up_load29 (by rfl) ((hcz _ _ p12l).trans m0) ((hcz _ _ p12l).trans m1) ((hcz _ _ p12l).trans m2) ((hcz _ _ p12l).trans m3) ((hcz _ _ p12l).trans m4)
                 simp only [Act.put, List.setIfInBounds_toArray, List.set_cons_zero, List.set_cons_succ])
                (refine Rr.wr_y (by simp only [List.getElem?_toArray, List.getElem?_cons_succ, List.getElem?_cons_zero]; rfl) (by rfl) ?_
                 apply Exists.intro
                 refine ⟨fun wz hw _ => ?_, ?_⟩
                 · have hcz := hw.cells.1
                   go_simp
                   apply Rg.up_enter
                   (with_reducible refine (num_any _ _).mono ?_)
                   rintro e w3 ⟨rfl, hb3⟩
                   exact ⟨rfl, hb3⟩
                 simp only [Act.put, List.setIfInBounds_toArray, List.set_cons_zero, List.set_cons_succ])
                (refine Rr.wr_y (by simp only [List.getElem?_toArray, List.getElem?_cons_succ, List.getElem?_cons_zero]; rfl) (by rfl) ?_
                 apply Exists.intro
                 refine ⟨fun wz hw _ => ?_, ?_⟩
                 · have hcz := hw.cells.1
                   go_simp
                   apply Rg.up_enter
                   (with_reducible refine (name_any _ _).mono ?_)
                   rintro e w3 ⟨rfl, hb3⟩
                   exact ⟨rfl, hb3⟩
                 simp only [Act.put, List.setIfInBounds_toArray, List.set_cons_zero, List.set_cons_succ])
                (refine Rr.wr_y (by simp only [List.getElem?_toArray, List.getElem?_cons_succ, List.getElem?_cons_zero]; rfl) (by rfl) ?_
                 apply Exists.intro
                 refine ⟨fun wz hw _ => ?_, ?_⟩
                 · have hcz := hw.cells.1
                   exact up_load29 (by rfl) ((hcz _ _ pj11).trans k0) ((hcz _ _ pj11).trans k1) ((hcz _ _ pj11).trans k2) ((hcz _ _ pj11).trans k3) ((hcz _ _ pj11).trans k4)
                 simp only [Act.put, List.setIfInBounds_toArray, List.set_cons_zero, List.set_cons_succ])
                refine Rr.wr_z (fun v w' => Rd All w' (opE' addB (numE (6, 1)) (nameE priceB)) v) (by simp only [List.getElem?_toArray, List.getElem?_cons_succ, List.getElem?_cons_zero]; rfl) (by rfl) (fun v w1 w2 h e => by first | exact Rd.ext e h | exact h.ext e) (fun wz hw hh => ?_) (fun u => ?_)
                · have hcz := hw.cells.1
                  go_simp
                  apply Rr.upR_enter
                  (with_reducible refine (op_any All addB (numE (6, 1)) (nameE priceB) _ _ _ (rd60 6 _) (rdN _ _) (fun _ _ => trivial)).mono ?_)
                  rintro e w3 ⟨v3, rfl, hx3, hr3⟩
                  exact ⟨v3, rfl, hx3, hr3⟩
                simp only [Act.put, List.setIfInBounds_toArray, List.set_cons_zero, List.set_cons_succ]
                refine Rr.wr_z (fun v w' => Rd All w' exT6 v) (by simp only [List.getElem?_toArray, List.getElem?_cons_succ, List.getElem?_cons_zero]; rfl) (by rfl) (fun v w1 w2 h e => by first | exact Rd.ext e h | exact h.ext e) (fun wz hw hh => ?_) (fun u => ?_)
                · have hcz := hw.cells.1
                  go_simp
                  apply Rr.upR_enter
                  (with_reducible refine (op_any All quoB (opE' addB (numE (6, 1)) (nameE priceB)) exZero _ _ _ (holds_hd hh) (HZ2.out.ext (by with_reducible repeat (first | exact Ext.refl _ | assumption | apply Ext.drewN | apply Ext.drew | apply Ext.alloc | (refine Ext.setCell ?_ (by simp <;> omega) _) | (refine Ext.trans ?_ (by assumption))))) (fun _ _ => trivial)).mono ?_)
                  rintro e w3 ⟨v3, rfl, hx3, hr3⟩
                  exact ⟨v3, rfl, hx3, hr3⟩
                simp only [Act.put, List.setIfInBounds_toArray, List.set_cons_zero, List.set_cons_succ]
                (refine Rr.wr_y (by simp only [List.getElem?_toArray, List.getElem?_cons_succ, List.getElem?_cons_zero]; rfl) (by rfl) ?_
                 apply Exists.intro
                 refine ⟨fun wz hw hh => ?_, ?_⟩
                 · have hr := holds_hd hh
                   go_simp
                   apply Rg.up_enter
                   (with_reducible refine (same_any All All 12 exT6 (by decide) _ _ _ (HR.out.ext hw) hr).mono ?_)
                   rintro e w3 ⟨rfl, hb3⟩
                   exact ⟨rfl, hb3⟩
                 simp only [Act.put, List.setIfInBounds_toArray, List.set_cons_zero, List.set_cons_succ])
                (refine Rr.wr_y (by simp only [List.getElem?_toArray, List.getElem?_cons_succ, List.getElem?_cons_zero]; rfl) (by rfl) ?_
                 apply Exists.intro
                 refine ⟨fun wz hw _ => ?_, ?_⟩
                 · have hcz := hw.cells.1
                   go_simp
                   (with_reducible exact Rg.up_value)
                 simp only [Act.put, List.setIfInBounds_toArray, List.set_cons_zero, List.set_cons_succ])
                refine Rr.wr_nil ?_
                intro wy hy hh
                simp only [List.length_cons, List.length_nil, List.drop_succ_cons, List.drop_zero, Nat.reduceAdd]
                clear hh
                go_wp2
                go_ret
                exact ⟨rfl, (by with_reducible repeat (first | exact Ext.refl _ | assumption | apply Ext.drewN | apply Ext.drew | apply Ext.alloc | (refine Ext.setCell ?_ (by simp <;> omega) _) | (refine Ext.trans ?_ (by assumption))))⟩
end Go.Proofs.Ytgkdeknfmmgbdaa

namespace Go.Proofs.Ytgkdeknfmmgbdaa
set_option linter.unusedVariables false
set_option linter.unusedSimpArgs false
open Go.RowKit

theorem Ex.parts_get : ∀ (ts : List Ex) (k : Nat) (h : k < ts.length), Ex.partsL (ts.take (k + 1)) = Ex.partsL (ts.take k) + ts[k].parts ∧ ts[k].parts ≤ Ex.partsL ts ∧ Ex.partsL (ts.take k) ≤ Ex.partsL ts
  | t :: ts, 0, _ => by
    simp only [List.take_zero, List.take_succ_cons, Ex.partsL, List.getElem_cons_zero]; omega
  | t :: ts, k + 1, h => by
    have ih := Ex.parts_get ts k (by simpa using h)
    simp only [List.take_succ_cons, Ex.partsL, List.getElem_cons_succ] at ih ⊢
    omega
theorem Ex.depth_take : ∀ (ts : List Ex) (k : Nat) (h : k < ts.length), Ex.depthL (ts.take (k + 1)) = max (Ex.depthL (ts.take k)) ts[k].depth
  | t :: ts, 0, _ => by
    simp only [List.take_zero, List.take_succ_cons, Ex.depthL, List.getElem_cons_zero]; omega
  | t :: ts, k + 1, h => by
    have ih := Ex.depth_take ts k (by simpa using h)
    simp only [List.take_succ_cons, Ex.depthL, List.getElem_cons_succ] at ih ⊢
    omega
mutual
theorem Ex.depth_le : ∀ t : Ex, t.depth ≤ t.parts
  | .mk _ _ _ ts => by rw [Ex.depth, Ex.parts]; have := Ex.depthL_le ts; omega
theorem Ex.depthL_le : ∀ ts : List Ex, Ex.depthL ts ≤ Ex.partsL ts
  | [] => by rw [Ex.depthL]; exact Nat.zero_le _
  | t :: ts => by rw [Ex.depthL, Ex.partsL]; have := Ex.depth_le t; have := Ex.depthL_le ts; omega
end

set_option maxRecDepth 100000 in
set_option maxHeartbeats 2000000 in
theorem rparts_any : ∀ (d : Nat) (t : Ex) (_ : t.depth ≤ d) (_ : t.parts ≤ 100000) (w : World) (v : Value) (_ : Rd All w t v),
    Calls Try.prog 22 #[v] w fun e w' => e = .returned (.int .i64 (t.parts : Nat)) ∧ Ext w w'
  | 0, .mk op n nm ts, hd, _, _, _, _ => by rw [Ex.depth] at hd; omega
  | d + 1, .mk op n nm ts, hd, hp, w, v, hv => by
    obtain ⟨n1, n2⟩ := n
    unfold Rd at hv
    obtain ⟨base, cap, rfl, -, hlen, hr⟩ := hv
    have IH := Lib.hid (fun t ht hp w v hv => rparts_any d t ht hp w v hv)
    rw [Ex.depth] at hd
    rw [Ex.parts] at hp
    have hdp := Ex.depthL_le ts
    rw [Ex.parts]
    have HR := Lib.hid hr
    have hn0 : (0 : Int) ≤ (ts.length : Int) := by omega
    have hn2 : (ts.length : Int) ≤ 9223372036854775807 := by omega
    clear hr
    obtain ⟨W, hW⟩ : ∃ W, W = (w.alloc (.cells #[.string op, .int .i64 n1, .int .i64 n2, .string nm, .slice base ts.length cap] 29)) := ⟨_, rfl⟩
    have hxW : Ext w W := by rw [hW]; exact Ext.alloc (Ext.refl _) _
    have hw1 : W.heap[w.heap.size]? = some (.cells #[.string op, .int .i64 n1, .int .i64 n2, .string nm, .slice base ts.length cap] 29) := by rw [hW]; exact block_new rfl
    go_enter Try.func22, Try.ntmps22
    go_wp2_with (fail)
    rw [← hW]
    clear hW
    have s1 : w.heap.size < W.heap.size := Rg.lt_of_heap hw1
    have e4 : W.cell? ⟨w.heap.size, 4, none⟩ = some (.slice base ts.length cap) := by rw [cell_of_row W _ _ _ _ _ hw1]; rfl
    clear hw1
    obtain ⟨p, hpe⟩ : ∃ p, p = w.heap.size := ⟨_, rfl⟩
    rw [← hpe] at s1 e4 ⊢
    clear hpe
    go_loopw [3, 4] (fun z i wr => ∃ k : Nat, k ≤ ts.length ∧ z = .int .i64 ((1 + Ex.partsL (ts.take k)) : Nat) ∧ i = .int .i64 k ∧ Ext W wr) (fun _ i _ => ts.length - (intOf i).toNat)
    case atStart => exact ⟨0, Nat.zero_le _, by rfl, rfl, Ext.refl _⟩
    case round =>
      obtain ⟨k, hk, rfl, rfl, hx⟩ := hrel
      have x4 := (hx.cells.1 _ _ s1).trans e4
      have t1 : p < wr.heap.size := Nat.lt_of_lt_of_le s1 hx.size
      have kw : IntKind.i64.wrap ((k : Int) + 1) = (k : Int) + 1 := by rw [IntKind.wrap_i64]; omega
      rcases Nat.lt_or_ge k ts.length with hlt | hge
      · rcases HR.out with h | ⟨b, rfl, -, hl⟩
        · subst h; exact absurd hlt (Nat.not_lt_zero _)
        obtain ⟨c, hc, hra⟩ := hl.get k hlt
        obtain ⟨oa, a1, a2, na, ba, la, ca, c0, c1, c2, c3, c4, ea⟩ := hra.shape
        rw [Nat.zero_add] at hc
        have hbl : b < w.heap.size := World.block_lt_of_cell? w _ (hc 0 (by decide))
        have hwr : Ext w wr := hxW.trans hx
        have s5 : b < wr.heap.size := Nat.lt_of_lt_of_le hbl hwr.size
        have j0 := (hwr.cells.1 b _ hbl).trans ((hc 0 (by decide)).trans (congrArg some c0))
        have j1 := (hwr.cells.1 b _ hbl).trans ((hc 1 (by decide)).trans (congrArg some c1))
        have j2 := (hwr.cells.1 b _ hbl).trans ((hc 2 (by decide)).trans (congrArg some c2))
        have j3 := (hwr.cells.1 b _ hbl).trans ((hc 3 (by decide)).trans (congrArg some c3))
        have j4 := (hwr.cells.1 b _ hbl).trans ((hc 4 (by decide)).trans (congrArg some c4))
        simp only [Nat.add_zero] at j0
        have hdk : ts[k].depth ≤ d := by have := Ex.depth_get ts k hlt; omega
        obtain ⟨q1, q2, q3⟩ := Ex.parts_get ts k hlt
        have q4 := Ex.depth_take ts k hlt
        have q5 := Ex.depth_le ts[k]
        have q6 := Ex.depthL_le (ts.take k)
        have HI := Lib.hid (fun w' hw => IH.out ts[k] hdk (by omega) w' _ (Rd.ext hw (ea ▸ hra)))
        have hlt' : (k : Int) < (ts.length : Int) := by omega
        have hk0 : (0 : Int) ≤ (k : Int) := by omega
        have kw2 : IntKind.i64.wrap (1 + (Ex.partsL (ts.take k) : Int) + (ts[k].parts : Int)) = 1 + (Ex.partsL (ts.take k) : Int) + (ts[k].parts : Int) := by rw [IntKind.wrap_i64]; omega
        have HQ := Lib.hid (show _ ∧ _ from ⟨q1, q4⟩)
        clear hc hra hl c0 c1 c2 c3 c4 ea hdk q1 q2 q3 q4 q5 q6 hdp hp hd hlen
        go_wp2_with (go_at_call 22; (with_reducible refine (HI.out _ ?_).mono ?_); (exact hwr); rintro e w3 ⟨rfl, hx3⟩; have x4' := (hx3.cells.1 _ _ t1).trans x4; have t1' := Nat.lt_of_lt_of_le t1 hx3.size)
        go_roundw
        case rel => exact ⟨k + 1, by omega, by (rw [HQ.out.1]; congr 1; omega), by go_num, (by with_reducible repeat (first | exact Ext.refl _ | assumption | apply Ext.drewN | apply Ext.drew | apply Ext.alloc | (refine Ext.setCell ?_ (by simp <;> omega) _) | (refine Ext.trans ?_ (by assumption))))⟩
        case measure => simp [intOf]; omega
      · have hkn : k = ts.length := by omega
        subst hkn
        rw [List.take_length]
        skip
        go_wp2
        go_ret
        exact ⟨by rfl, hxW.trans hx⟩
set_option maxRecDepth 100000 in
set_option maxHeartbeats 2000000 in
theorem rdepth_any : ∀ (d : Nat) (t : Ex) (_ : t.depth ≤ d) (_ : t.parts ≤ 100000) (w : World) (v : Value) (_ : Rd All w t v),
    Calls Try.prog 57 #[v] w fun e w' => e = .returned (.int .i64 (t.depth : Nat)) ∧ Ext w w'
  | 0, .mk op n nm ts, hd, _, _, _, _ => by rw [Ex.depth] at hd; omega
  | d + 1, .mk op n nm ts, hd, hp, w, v, hv => by
    obtain ⟨n1, n2⟩ := n
    unfold Rd at hv
    obtain ⟨base, cap, rfl, -, hlen, hr⟩ := hv
    have IH := Lib.hid (fun t ht hp w v hv => rdepth_any d t ht hp w v hv)
    rw [Ex.depth] at hd
    rw [Ex.parts] at hp
    have hdp := Ex.depthL_le ts
    rw [Ex.depth]
    have HR := Lib.hid hr
    have hn0 : (0 : Int) ≤ (ts.length : Int) := by omega
    have hn2 : (ts.length : Int) ≤ 9223372036854775807 := by omega
    clear hr
    obtain ⟨W, hW⟩ : ∃ W, W = (w.alloc (.cells #[.string op, .int .i64 n1, .int .i64 n2, .string nm, .slice base ts.length cap] 29)) := ⟨_, rfl⟩
    have hxW : Ext w W := by rw [hW]; exact Ext.alloc (Ext.refl _) _
    have hw1 : W.heap[w.heap.size]? = some (.cells #[.string op, .int .i64 n1, .int .i64 n2, .string nm, .slice base ts.length cap] 29) := by rw [hW]; exact block_new rfl
    go_enter Try.func57, Try.ntmps57
    go_wp2_with (fail)
    rw [← hW]
    clear hW
    have s1 : w.heap.size < W.heap.size := Rg.lt_of_heap hw1
    have e4 : W.cell? ⟨w.heap.size, 4, none⟩ = some (.slice base ts.length cap) := by rw [cell_of_row W _ _ _ _ _ hw1]; rfl
    clear hw1
    obtain ⟨p, hpe⟩ : ∃ p, p = w.heap.size := ⟨_, rfl⟩
    rw [← hpe] at s1 e4 ⊢
    clear hpe
    go_loopw [3, 4] (fun z i wr => ∃ k : Nat, k ≤ ts.length ∧ z = .int .i64 ((Ex.depthL (ts.take k)) : Nat) ∧ i = .int .i64 k ∧ Ext W wr) (fun _ i _ => ts.length - (intOf i).toNat)
    case atStart => exact ⟨0, Nat.zero_le _, by rfl, rfl, Ext.refl _⟩
    case round =>
      obtain ⟨k, hk, rfl, rfl, hx⟩ := hrel
      have x4 := (hx.cells.1 _ _ s1).trans e4
      have t1 : p < wr.heap.size := Nat.lt_of_lt_of_le s1 hx.size
      have kw : IntKind.i64.wrap ((k : Int) + 1) = (k : Int) + 1 := by rw [IntKind.wrap_i64]; omega
      rcases Nat.lt_or_ge k ts.length with hlt | hge
      · rcases HR.out with h | ⟨b, rfl, -, hl⟩
        · subst h; exact absurd hlt (Nat.not_lt_zero _)
        obtain ⟨c, hc, hra⟩ := hl.get k hlt
        obtain ⟨oa, a1, a2, na, ba, la, ca, c0, c1, c2, c3, c4, ea⟩ := hra.shape
        rw [Nat.zero_add] at hc
        have hbl : b < w.heap.size := World.block_lt_of_cell? w _ (hc 0 (by decide))
        have hwr : Ext w wr := hxW.trans hx
        have s5 : b < wr.heap.size := Nat.lt_of_lt_of_le hbl hwr.size
        have j0 := (hwr.cells.1 b _ hbl).trans ((hc 0 (by decide)).trans (congrArg some c0))
        have j1 := (hwr.cells.1 b _ hbl).trans ((hc 1 (by decide)).trans (congrArg some c1))
        have j2 := (hwr.cells.1 b _ hbl).trans ((hc 2 (by decide)).trans (congrArg some c2))
        have j3 := (hwr.cells.1 b _ hbl).trans ((hc 3 (by decide)).trans (congrArg some c3))
        have j4 := (hwr.cells.1 b _ hbl).trans ((hc 4 (by decide)).trans (congrArg some c4))
        simp only [Nat.add_zero] at j0
        have hdk : ts[k].depth ≤ d := by have := Ex.depth_get ts k hlt; omega
        obtain ⟨q1, q2, q3⟩ := Ex.parts_get ts k hlt
        have q4 := Ex.depth_take ts k hlt
        have q5 := Ex.depth_le ts[k]
        have q6 := Ex.depthL_le (ts.take k)
        have HI := Lib.hid (fun w' hw => IH.out ts[k] hdk (by omega) w' _ (Rd.ext hw (ea ▸ hra)))
        have hlt' : (k : Int) < (ts.length : Int) := by omega
        have hk0 : (0 : Int) ≤ (k : Int) := by omega
        skip
        have HQ := Lib.hid (show _ ∧ _ from ⟨q1, q4⟩)
        clear hc hra hl c0 c1 c2 c3 c4 ea hdk q1 q2 q3 q4 q5 q6 hdp hp hd hlen
        go_wp2_with (go_at_call 57; (with_reducible refine (HI.out _ ?_).mono ?_); (exact hwr); rintro e w3 ⟨rfl, hx3⟩; have x4' := (hx3.cells.1 _ _ t1).trans x4; have t1' := Nat.lt_of_lt_of_le t1 hx3.size)
        go_roundw
        case rel => exact ⟨k + 1, by omega, by (rw [HQ.out.2]; congr 1; omega), by go_num, (by with_reducible repeat (first | exact Ext.refl _ | assumption | apply Ext.drewN | apply Ext.drew | apply Ext.alloc | (refine Ext.setCell ?_ (by simp <;> omega) _) | (refine Ext.trans ?_ (by assumption))))⟩
        case measure => simp [intOf]; omega
      · have hkn : k = ts.length := by omega
        subst hkn
        rw [List.take_length]
        have kw3 : IntKind.i64.wrap ((Ex.depthL ts : Nat) + 1) = ((Ex.depthL ts : Nat) : Int) + 1 := by rw [IntKind.wrap_i64]; omega
        go_wp2
        go_ret
        exact ⟨by rw [show ((1 + Ex.depthL ts : Nat) : Int) = (Ex.depthL ts : Int) + 1 by omega]; rfl, hxW.trans hx⟩
end Go.Proofs.Ytgkdeknfmmgbdaa

namespace Go.Proofs.Ytgkdeknfmmgbdaa
set_option linter.unusedVariables false
set_option linter.unusedSimpArgs false

/-- The number that digits spell. -/
def dv : List Int → Int
  | [] => 0
  | d :: l => d + 65536 * dv l
def Dg (l : List Int) : Prop := ∀ d ∈ l, 0 ≤ d ∧ d < 65536
/-- No digit 0 at the end. -/
def Tr (l : List Int) : Prop := l = [] ∨ ∃ p d, l = p ++ [d] ∧ d ≠ 0
theorem Dg.nil : Dg [] := by intro d hd; cases hd
theorem Dg.cons {d : Int} {l : List Int} (h : 0 ≤ d ∧ d < 65536) (hl : Dg l) : Dg (d :: l) := by
  intro e he
  rcases List.mem_cons.1 he with rfl | he
  · exact h
  · exact hl e he
theorem Dg.head {d : Int} {l : List Int} (h : Dg (d :: l)) : 0 ≤ d ∧ d < 65536 := h d List.mem_cons_self
theorem Dg.tail {d : Int} {l : List Int} (h : Dg (d :: l)) : Dg l := fun e he => h e (List.mem_cons_of_mem _ he)
theorem Dg.drop {l : List Int} (h : Dg l) (k : Nat) : Dg (l.drop k) := fun e he => h e (List.mem_of_mem_drop he)
theorem Dg.take {l : List Int} (h : Dg l) (k : Nat) : Dg (l.take k) := fun e he => h e (List.mem_of_mem_take he)
theorem Dg.app {l m : List Int} (h : Dg l) (h' : Dg m) : Dg (l ++ m) := fun e he => (List.mem_append.1 he).elim (h e) (h' e)
theorem Dg.at {l : List Int} (h : Dg l) (k : Nat) (hk : k < l.length) : 0 ≤ l[k] ∧ l[k] < 65536 := h _ (List.getElem_mem hk)
theorem dv_nonneg : ∀ {l : List Int}, Dg l → 0 ≤ dv l
  | [], _ => by simp [dv]
  | d :: l, h => by have := dv_nonneg h.tail; have := h.head; simp only [dv]; omega
theorem dv_app (a b : List Int) : dv (a ++ b) = dv a + 65536 ^ a.length * dv b := by
  induction a with
  | nil => simp [dv]
  | cons d a ih => simp only [List.cons_append, dv, ih, List.length_cons, Int.pow_succ, Int.mul_add]; generalize (65536 : Int) ^ a.length = p; rw [show p * 65536 * dv b = 65536 * (p * dv b) by rw [Int.mul_comm p, Int.mul_assoc]]; omega
theorem dv_app0 (a b : List Int) (h : dv b = 0) : dv (a ++ b) = dv a := by rw [dv_app, h]; omega
theorem pow_pos' (n : Nat) : (0 : Int) < 65536 ^ n := Int.pow_pos (by omega)
theorem dv_lt : ∀ {l : List Int}, Dg l → dv l < 65536 ^ l.length
  | [], _ => by simp [dv]
  | d :: l, h => by have := dv_lt h.tail; have := h.head; simp only [dv, List.length_cons, Int.pow_succ]; omega
theorem dv_zero : ∀ {l : List Int}, Dg l → Tr l → dv l = 0 → l = []
  | l, hd, ht, h0 => by
    rcases ht with h | ⟨p, d, rfl, hn⟩
    · exact h
    · exfalso
      rw [dv_app] at h0
      have h1 := dv_nonneg (l := p) fun e he => hd e (List.mem_append_left _ he)
      have h2 := hd d (by simp)
      have h3 := pow_pos' p.length
      have : (65536 : Int) ^ p.length * 1 ≤ 65536 ^ p.length * dv [d] := Int.mul_le_mul_of_nonneg_left (by simp only [dv]; omega) (by omega)
      omega
theorem Tr.ge {l : List Int} (hd : Dg l) (ht : Tr l) (hn : l ≠ []) : 65536 ^ (l.length - 1) ≤ dv l := by
  rcases ht with h | ⟨p, d, rfl, hn⟩
  · exact absurd h hn
  · rw [dv_app]
    have h1 := dv_nonneg (l := p) fun e he => hd e (List.mem_append_left _ he)
    have h2 := hd d (by simp)
    have : (65536 : Int) ^ p.length * 1 ≤ 65536 ^ p.length * dv [d] := Int.mul_le_mul_of_nonneg_left (by simp only [dv]; omega) (by have := pow_pos' p.length; omega)
    simp only [List.length_append, List.length_singleton, Nat.add_sub_cancel]
    omega
theorem pow_mono {a b : Nat} (h : a ≤ b) : (65536 : Int) ^ a ≤ 65536 ^ b := by
  obtain ⟨c, rfl⟩ := Nat.le.dest h
  rw [Int.pow_add]
  have h1 := pow_pos' a
  have h2 := pow_pos' c
  have : (65536 : Int) ^ a * 1 ≤ 65536 ^ a * 65536 ^ c := Int.mul_le_mul_of_nonneg_left (by omega) (by omega)
  omega
/-- Digits that are trimmed are as many as the number needs. -/
theorem Tr.len_le {l : List Int} (hd : Dg l) (ht : Tr l) (k : Nat) (h : dv l < 65536 ^ k) : l.length ≤ k := by
  by_cases hn : l = []
  · subst hn; simp
  · have h1 := ht.ge hd hn
    rcases Nat.lt_or_ge k l.length with hk | hk
    · have := pow_mono (a := k) (b := l.length - 1) (by omega)
      omega
    · exact hk
theorem dv_lt_len {a b : List Int} (ha : Dg a) (hb : Dg b) (ht : Tr b) (h : a.length < b.length) : dv a < dv b := by
  have h1 := dv_lt ha
  have h2 := ht.ge hb (by intro e; rw [e] at h; simp at h)
  have := pow_mono (a := a.length) (b := b.length - 1) (by omega)
  omega

/-- trim. -/
def trimF : Nat → List Int → List Int
  | 0, l => l
  | f + 1, l => if 0 < l.length ∧ l.getLast? = some 0 then trimF f l.dropLast else l
def trimL (l : List Int) : List Int := trimF l.length l
theorem trimF_spec : ∀ (f : Nat) (l : List Int), l.length ≤ f → Dg l → Dg (trimF f l) ∧ Tr (trimF f l) ∧ dv (trimF f l) = dv l ∧ (trimF f l).length ≤ l.length
  | 0, l, h, hd => by
    have : l = [] := List.length_eq_zero_iff.1 (by omega)
    subst this
    exact ⟨hd, .inl rfl, rfl, Nat.le_refl _⟩
  | f + 1, l, h, hd => by
    rw [trimF]
    split
    · rename_i hc
      obtain ⟨hp, hl⟩ := hc
      have hne : l ≠ [] := by intro e; rw [e] at hp; simp at hp
      have hdl : l.dropLast ++ [0] = l := by
        rw [List.getLast?_eq_some_getLast hne] at hl
        have := List.dropLast_concat_getLast hne
        rwa [Option.some.inj hl] at this
      obtain ⟨h1, h2, h3, h4⟩ := trimF_spec f l.dropLast (by simp; omega) fun e he => hd e (List.dropLast_subset _ he)
      refine ⟨h1, h2, ?_, ?_⟩
      · rw [h3]; conv => rhs; rw [← hdl]
        exact (dv_app0 _ _ (by simp [dv])).symm
      · rw [List.length_dropLast] at h4; omega
    · rename_i hc
      refine ⟨hd, ?_, rfl, Nat.le_refl _⟩
      by_cases hne : l = []
      · exact .inl hne
      · have hl := List.getLast?_eq_some_getLast hne
        refine .inr ⟨l.dropLast, l.getLast hne, (List.dropLast_concat_getLast hne).symm, fun e => hc ⟨List.length_pos_iff.2 hne, ?_⟩⟩
        rw [hl, e]
theorem trimL_spec (l : List Int) (hd : Dg l) : Dg (trimL l) ∧ Tr (trimL l) ∧ dv (trimL l) = dv l ∧ (trimL l).length ≤ l.length := trimF_spec _ l (Nat.le_refl _) hd
/-- Digits that spell one number, trimmed, are one list. -/
theorem dv_inj : ∀ {a b : List Int}, Dg a → Dg b → a.length = b.length → dv a = dv b → a = b
  | [], [], _, _, _, _ => rfl
  | x :: a, y :: b, ha, hb, hl, h => by
    have h1 := ha.head; have h2 := hb.head
    simp only [dv] at h
    have : x = y := by omega
    subst this
    rw [dv_inj ha.tail hb.tail (by simpa using hl) (by omega)]

/-- compare. -/
def cmpL (a b : List Int) : Int := if dv a < dv b then -1 else if dv a = dv b then 0 else 1

/-- plus. -/
def plusL : Int → List Int → List Int → List Int
  | c, [], [] => if 0 < c then [c % 65536] else []
  | c, x :: a, [] => (c + x) % 65536 :: plusL ((c + x) / 65536) a []
  | c, [], y :: b => (c + y) % 65536 :: plusL ((c + y) / 65536) [] b
  | c, x :: a, y :: b => (c + x + y) % 65536 :: plusL ((c + x + y) / 65536) a b
theorem plusL_spec : ∀ (c : Int) (a b : List Int), 0 ≤ c → c ≤ 1 → Dg a → Dg b → Dg (plusL c a b) ∧ dv (plusL c a b) = c + dv a + dv b ∧ (plusL c a b).length ≤ max a.length b.length + 1
  | c, [], [], h0, h1, _, _ => by
    rw [plusL]
    split
    · refine ⟨Dg.cons (by omega) Dg.nil, ?_, by simp⟩
      simp only [dv]; omega
    · refine ⟨Dg.nil, ?_, by simp⟩
      simp only [dv]; omega
  | c, x :: a, [], h0, h1, ha, hb => by
    have hx := ha.head
    obtain ⟨k1, k2, k3⟩ := plusL_spec ((c + x) / 65536) a [] (by omega) (by omega) ha.tail hb
    rw [plusL]
    refine ⟨Dg.cons (by omega) k1, ?_, ?_⟩
    · simp only [dv] at k2 ⊢; rw [k2]; omega
    · simp only [List.length_cons, List.length_nil] at k3 ⊢; omega
  | c, [], y :: b, h0, h1, ha, hb => by
    have hx := hb.head
    obtain ⟨k1, k2, k3⟩ := plusL_spec ((c + y) / 65536) [] b (by omega) (by omega) ha hb.tail
    rw [plusL]
    refine ⟨Dg.cons (by omega) k1, ?_, ?_⟩
    · simp only [dv] at k2 ⊢; rw [k2]; omega
    · simp only [List.length_cons, List.length_nil] at k3 ⊢; omega
  | c, x :: a, y :: b, h0, h1, ha, hb => by
    have hx := ha.head
    have hy := hb.head
    obtain ⟨k1, k2, k3⟩ := plusL_spec ((c + x + y) / 65536) a b (by omega) (by omega) ha.tail hb.tail
    rw [plusL]
    refine ⟨Dg.cons (by omega) k1, ?_, ?_⟩
    · simp only [dv] at k2 ⊢; rw [k2]; omega
    · simp only [List.length_cons] at k3 ⊢; omega

/-- minus, before it is trimmed. -/
def minusL : Int → List Int → List Int → List Int
  | _, [], _ => []
  | c, x :: a, [] => if x - c < 0 then (x - c + 65536) :: minusL 1 a [] else (x - c) :: minusL 0 a []
  | c, x :: a, y :: b => if x - c - y < 0 then (x - c - y + 65536) :: minusL 1 a b else (x - c - y) :: minusL 0 a b
theorem minusL_spec : ∀ (c : Int) (a b : List Int), 0 ≤ c → c ≤ 1 → Dg a → Dg b → c + dv b ≤ dv a → Dg (minusL c a b) ∧ dv (minusL c a b) = dv a - dv b - c ∧ (minusL c a b).length = a.length
  | c, [], b, h0, h1, _, hb, h => by
    have := dv_nonneg hb
    rw [minusL]
    refine ⟨Dg.nil, ?_, rfl⟩
    simp only [dv] at h ⊢; omega
  | c, x :: a, [], h0, h1, ha, hb, h => by
    have hx := ha.head
    simp only [dv] at h
    rw [minusL]
    split
    · obtain ⟨k1, k2, k3⟩ := minusL_spec 1 a [] (by omega) (by omega) ha.tail hb (by simp only [dv]; omega)
      refine ⟨Dg.cons (by omega) k1, ?_, by simp [k3]⟩
      simp only [dv] at k2 ⊢; rw [k2]; omega
    · obtain ⟨k1, k2, k3⟩ := minusL_spec 0 a [] (by omega) (by omega) ha.tail hb (by simp only [dv]; omega)
      refine ⟨Dg.cons (by omega) k1, ?_, by simp [k3]⟩
      simp only [dv] at k2 ⊢; rw [k2]; omega
  | c, x :: a, y :: b, h0, h1, ha, hb, h => by
    have hx := ha.head
    have hy := hb.head
    simp only [dv] at h
    rw [minusL]
    split
    · obtain ⟨k1, k2, k3⟩ := minusL_spec 1 a b (by omega) (by omega) ha.tail hb.tail (by omega)
      refine ⟨Dg.cons (by omega) k1, ?_, by simp [k3]⟩
      simp only [dv] at k2 ⊢; rw [k2]; omega
    · obtain ⟨k1, k2, k3⟩ := minusL_spec 0 a b (by omega) (by omega) ha.tail hb.tail (by omega)
      refine ⟨Dg.cons (by omega) k1, ?_, by simp [k3]⟩
      simp only [dv] at k2 ⊢; rw [k2]; omega

/-- One row of times: digits in place, a digit, a carry. -/
def rowL (x : Int) : Int → List Int → List Int → List Int
  | c, _ :: os, [] => c :: os
  | c, o :: os, y :: b => (o + x * y + c) % 65536 :: rowL x ((o + x * y + c) / 65536) os b
  | _, [], _ => []
theorem mul_digit {x y : Int} (hx : 0 ≤ x ∧ x < 65536) (hy : 0 ≤ y ∧ y < 65536) : 0 ≤ x * y ∧ x * y ≤ 4294836225 := by
  refine ⟨Int.mul_nonneg hx.1 hy.1, ?_⟩
  have h1 : x * y ≤ 65535 * y := Int.mul_le_mul_of_nonneg_right (by omega) hy.1
  omega
theorem rowL_spec (x : Int) (hx : 0 ≤ x ∧ x < 65536) : ∀ (b : List Int) (c : Int) (os : List Int), 0 ≤ c → c < 65536 → Dg os → Dg b → b.length < os.length → (∀ k (h : k < os.length), b.length ≤ k → os[k] = 0) →
    Dg (rowL x c os b) ∧ dv (rowL x c os b) = dv os + x * dv b + c ∧ (rowL x c os b).length = os.length ∧ (∀ k (h : k < (rowL x c os b).length), b.length < k → (rowL x c os b)[k] = 0)
  | [], c, [], _, _, _, _, hl, _ => by simp at hl
  | [], c, o :: os, h0, h1, ho, hb, hl, hz => by
    rw [rowL]
    have hz0 : o = 0 := hz 0 (by simp) (by simp)
    refine ⟨Dg.cons ⟨h0, h1⟩ ho.tail, by simp only [dv]; omega, by simp, ?_⟩
    intro k hk hk2
    cases k with
    | zero => simp at hk2
    | succ k => exact hz (k + 1) hk (by simp)
  | y :: b, c, [], _, _, _, _, hl, _ => by simp at hl
  | y :: b, c, o :: os, h0, h1, ho, hb, hl, hz => by
    have hy := hb.head
    have hoo := ho.head
    obtain ⟨m0, m1⟩ := mul_digit hx hy
    rw [rowL]
    obtain ⟨k1, k2, k3, k4⟩ := rowL_spec x hx b ((o + x * y + c) / 65536) os (by omega) (by omega) ho.tail hb.tail (by simpa using hl) (fun k hk hk2 => hz (k + 1) (by simpa using hk) (by simpa using hk2))
    refine ⟨Dg.cons (by omega) k1, ?_, by simp [k3], ?_⟩
    · simp only [dv, k2, Int.mul_add]
      rw [show x * (65536 * dv b) = 65536 * (x * dv b) by rw [← Int.mul_assoc, Int.mul_comm x, Int.mul_assoc]]
      omega
    · intro k hk hk2
      cases k with
      | zero => simp at hk2
      | succ k => exact k4 k (by simpa using hk) (by simpa using hk2)
/-- times, before it is trimmed. -/
def mulL : List Int → List Int → List Int → List Int
  | [], _, os => os
  | x :: a, b, os => match rowL x 0 os b with | [] => [] | o :: r => o :: mulL a b r
theorem mulL_spec : ∀ (a b os : List Int), Dg a → Dg b → Dg os → os.length = a.length + b.length → (∀ k (h : k < os.length), b.length ≤ k → os[k] = 0) →
    Dg (mulL a b os) ∧ dv (mulL a b os) = dv os + dv a * dv b ∧ (mulL a b os).length = os.length
  | [], b, os, _, _, ho, _, _ => by rw [mulL]; exact ⟨ho, by simp [dv], rfl⟩
  | x :: a, b, os, ha, hb, ho, hl, hz => by
    obtain ⟨k1, k2, k3, k4⟩ := rowL_spec x ha.head b 0 os (by omega) (by omega) ho hb (by rw [hl, List.length_cons]; omega) hz
    rw [mulL]
    generalize rowL x 0 os b = r at *
    cases r with
    | nil => rw [List.length_cons] at hl; simp at k3; omega
    | cons o r =>
      simp only
      obtain ⟨j1, j2, j3⟩ := mulL_spec a b r ha.tail hb k1.tail (by simp only [List.length_cons] at k3 hl; omega) (fun k hk hk2 => k4 (k + 1) (by simpa using hk) (by omega))
      refine ⟨Dg.cons k1.head j1, ?_, by simp [j3, ← k3]⟩
      simp only [dv] at k2 ⊢
      rw [j2, Int.add_mul, Int.mul_add, Int.mul_assoc]
      omega
end Go.Proofs.Ytgkdeknfmmgbdaa

namespace Go.Proofs.Ytgkdeknfmmgbdaa
set_option linter.unusedVariables false
set_option linter.unusedSimpArgs false
open Go.RowKit

def cellsV : Value → List Value
  | .agg cs => cs.toList
  | _ => []
theorem flat5 : ∀ (us : List Value) (_ : ∀ u ∈ us, (cellsV u).length = 5) (i : Nat) (h : i < us.length) (j : Nat) (_ : j < 5), (us.flatMap cellsV)[i * 5 + j]? = (cellsV us[i])[j]?
  | u :: us, h5, 0, h, j, hj => by
    rw [List.flatMap_cons, Nat.zero_mul, Nat.zero_add, List.getElem?_append_left (by rw [h5 u List.mem_cons_self]; exact hj)]
    rfl
  | u :: us, h5, i + 1, h, j, hj => by
    rw [List.flatMap_cons, List.getElem?_append_right (by rw [h5 u List.mem_cons_self]; omega), h5 u List.mem_cons_self, show (i + 1) * 5 + j - 5 = i * 5 + j by omega]
    exact flat5 us (fun u hu => h5 u (List.mem_cons_of_mem _ hu)) i (by simpa using h) j hj

/-- Blocks that are not the row's own. -/
abbrev Off (v : Value) : Nat → Prop := fun b => v.ownBlock ≠ some b
/-- The slice v, made by the call, holds the trees. -/
def FR (B : Nat) (w : World) (v : Value) (ts : List Ex) : Prop :=
  ∃ us : List Value, us.length = ts.length ∧ w.ownsRow B 29 5 v ts.length (us.flatMap cellsV) ∧ ∀ i (h : i < ts.length) (h' : i < us.length), Rd (Off v) w ts[i] us[i]

theorem Rd.cells5 {S : Nat → Prop} {w : World} {t : Ex} {u : Value} (h : Rd S w t u) : (cellsV u).length = 5 ∧ ∀ c ∈ cellsV u, c.oneCell' = true := by
  obtain ⟨op, n1, n2, nm, base, len, cap, rfl⟩ := h.form
  exact ⟨rfl, fun c hc => by simp [cellsV] at hc; rcases hc with rfl | rfl | rfl | rfl | rfl <;> rfl⟩

mutual
/-- The blocks of a tree are there. -/
theorem Rd.alive {S : Nat → Prop} {w : World} : ∀ (t : Ex) (v : Value), Rd S w t v → Rd (fun b => S b ∧ b < w.heap.size) w t v
  | .mk op n nm args, v, r => by
    unfold Rd at r ⊢
    obtain ⟨base, cap, hv, hn, hn2, hr⟩ := r
    refine ⟨base, cap, hv, hn, hn2, ?_⟩
    rcases hr with rfl | ⟨b, hb, hs, hl⟩
    · exact .inl rfl
    · match args, hl with
      | [], _ => exact .inl rfl
      | t :: ts, hl =>
        refine .inr ⟨b, hb, ⟨hs, ?_⟩, RdL.alive (t :: ts) b 0 hl⟩
        unfold RdL at hl
        obtain ⟨⟨c, hc, -⟩, -⟩ := hl
        exact World.block_lt_of_cell? w _ (hc 0 (by decide))
theorem RdL.alive {S : Nat → Prop} {w : World} : ∀ (ts : List Ex) (b k : Nat), RdL S w b k ts → RdL (fun b => S b ∧ b < w.heap.size) w b k ts
  | [], _, _, _ => by unfold RdL; trivial
  | t :: ts, b, k, r => by
    unfold RdL at r ⊢
    obtain ⟨⟨c, hc, hr⟩, hl⟩ := r
    exact ⟨⟨c, hc, Rd.alive t _ hr⟩, RdL.alive ts b (k + 1) hl⟩
end

theorem FR.nil (B : Nat) (w : World) : FR B w (.slice none 0 0) [] := ⟨[], rfl, World.ownsRow_nil w B 29 5, fun i h => absurd h (Nat.not_lt_zero _)⟩

theorem FR.five {B : Nat} {w : World} {v : Value} {ts : List Ex} {us : List Value} (hl : us.length = ts.length) (h : ∀ i (h : i < ts.length) (h' : i < us.length), Rd (Off v) w ts[i] us[i]) : ∀ u ∈ us, (cellsV u).length = 5 ∧ ∀ c ∈ cellsV u, c.oneCell' = true := by
  intro u hu
  obtain ⟨i, hi, rfl⟩ := List.mem_iff_getElem.1 hu
  exact (h i (by omega) hi).cells5

theorem FR.ext {B : Nat} {w w' : World} {v : Value} {ts : List Ex} (h : FR B w v ts) (e : Ext w w') : FR B w' v ts := by
  obtain ⟨us, hl, ho, hr⟩ := h
  refine ⟨us, hl, ?_, fun i h h' => (hr i h h').ext e⟩
  refine ⟨ho.1, ?_⟩
  rcases ho.2 with hn | ⟨g, cap, cur, hv, hb, hg, rest⟩
  · exact .inl hn
  · exact .inr ⟨g, cap, cur, hv, hb, (e.block g (Rg.lt_of_heap hg)).trans hg, rest⟩

/-- The tree at a place. -/
theorem FR.get {B : Nat} {w : World} {v : Value} {ts : List Ex} (h : FR B w v ts) (i : Nat) (hi : i < ts.length) :
    ∃ g cap op n1 n2 nm base len c, v = .slice (some ⟨g, 0, none⟩) ts.length cap ∧ g < w.heap.size ∧ cellsE w g i (at5 (.string op) (.int .i64 n1) (.int .i64 n2) (.string nm) (.slice base len c)) ∧
      Rd (Off v) w ts[i] (.agg #[.string op, .int .i64 n1, .int .i64 n2, .string nm, .slice base len c]) := by
  obtain ⟨us, hl, ho, hr⟩ := h
  have hu : i < us.length := by omega
  have h5 := FR.five (B := B) hl hr
  obtain ⟨g, cap, rfl, -, hlt⟩ := ho.form (by omega)
  have hri := hr i hi hu
  obtain ⟨op, n1, n2, nm, base, len, c, e⟩ := hri.form
  rw [e] at hri
  refine ⟨g, cap, op, n1, n2, nm, base, len, c, rfl, hlt, ?_, hri⟩
  intro j hj
  rw [ho.cellAt (i * 5 + j) (by omega), flat5 us (fun u hu => (h5 u hu).1) i hu j hj, e]
  match j, hj with
  | 0, _ => rfl
  | 1, _ => rfl
  | 2, _ => rfl
  | 3, _ => rfl
  | 4, _ => rfl

theorem addr_add (g j : Nat) : (⟨g, 0, none⟩ : Addr).add j = ⟨g, j, none⟩ := by
  unfold Addr.add
  split
  · rename_i h; rw [h]
  · simp

/-- What lies in a block of one tree. -/
theorem news5 {w : World} {p : Nat} {u : Value} (h5 : (cellsV u).length = 5) (h : ∀ j, j < 5 → w.cell? ⟨p, j, none⟩ = (cellsV u)[j]?) : ∀ j c, (cellsV u)[j]? = some c → w.cell? ((⟨p, 0, none⟩ : Addr).add j) = some c := by
  intro j c hc
  rw [addr_add, h j (by have := (List.getElem?_eq_some_iff.1 hc).1; omega), hc]

/-- One tree more. -/
theorem FR.push {B : Nat} {w w' : World} {v u : Value} {ts : List Ex} {t : Ex} {g cap : Nat} (us : List Value) (hl : us.length = ts.length) (hr : ∀ i (h : i < ts.length) (h' : i < us.length), Rd (Off v) w ts[i] us[i])
    (hu : Rd (Off v) w t u) (hw : w'.ownsRow B 29 5 (.slice (some ⟨g, 0, none⟩) (ts.length + 1) cap) (ts.length + 1) (us.flatMap cellsV ++ cellsV u)) (hg : w.grownBy w' v.ownBlock) (hat : v.ownBlock = some g ∨ g = w.heap.size) :
    FR B w' (.slice (some ⟨g, 0, none⟩) (ts.length + 1) cap) (ts ++ [t]) := by
  have keep : ∀ t u, Rd (Off v) w t u → Rd (Off (.slice (some ⟨g, 0, none⟩) (ts.length + 1) cap)) w' t u := by
    intro t u h
    refine Rd.frame (S := fun b => Off v b ∧ b < w.heap.size) ?_ ?_ _ _ (Rd.alive _ _ h)
    · rintro b o ⟨h1, -⟩ h2
      exact World.cell?_of_block (hg.block b h2 (Ne.symm h1))
    · rintro b ⟨h1, h2⟩
      show some g ≠ some b
      rcases hat with h | h
      · rw [← h]; exact h1
      · intro e; injection e with e; omega
  refine ⟨us ++ [u], by simp [hl], ?_, ?_⟩
  · rw [List.flatMap_append, List.length_append]
    simpa using hw
  · intro i h h'
    rcases Nat.lt_or_ge i ts.length with hlt | hge
    · rw [List.getElem_append_left hlt, List.getElem_append_left (by omega)]
      exact keep _ _ (hr i hlt (by omega))
    · have hi : i = ts.length := by simp at h; omega
      subst hi
      rw [List.getElem_append_right (Nat.le_refl _), List.getElem_append_right (by omega)]
      simp only [Nat.sub_self, hl, List.getElem_cons_zero]
      exact keep _ _ hu

theorem FR.form {B : Nat} {w : World} {v : Value} {ts : List Ex} (h : FR B w v ts) (h0 : 0 < ts.length) : ∃ g cap, v = .slice (some ⟨g, 0, none⟩) ts.length cap ∧ g < w.heap.size := by
  obtain ⟨us, hl, ho, hr⟩ := h
  obtain ⟨g, cap, h1, -, h2⟩ := ho.form h0
  exact ⟨g, cap, h1, h2⟩

theorem FR.own {B : Nat} {w : World} {v : Value} {ts : List Ex} (h : FR B w v ts) : ∀ k, v.ownBlock = some k → B ≤ k ∧ k < w.heap.size := by
  obtain ⟨us, hl, ho, hr⟩ := h
  exact ho.lt
/-- A tree that was there does not lie in a row that came later. -/
theorem Rd.off {S : Nat → Prop} {w : World} {t : Ex} {u v : Value} (h : Rd S w t u) (hv : ∀ k, v.ownBlock = some k → w.heap.size ≤ k) : Rd (Off v) w t u :=
  Rd.frame (S := fun b => S b ∧ b < w.heap.size) (fun _ _ _ _ => rfl) (fun b ⟨_, hb⟩ e => by have := hv b e; omega) _ _ (Rd.alive _ _ h)

theorem FR.at {B g n cap : Nat} {w : World} {ts : List Ex} (h : FR B w (.slice (some ⟨g, 0, none⟩) n cap) ts) (i : Nat) (hi : i < ts.length) :
    ∃ op n1 n2 nm base len c, g < w.heap.size ∧ cellsE w g i (at5 (.string op) (.int .i64 n1) (.int .i64 n2) (.string nm) (.slice base len c)) ∧
      Rd (Off (.slice (some ⟨g, 0, none⟩) n cap)) w ts[i] (.agg #[.string op, .int .i64 n1, .int .i64 n2, .string nm, .slice base len c]) := by
  obtain ⟨g', cap', op, n1, n2, nm, base, len, c, e, h1, h2, h3⟩ := h.get i hi
  injection e with e _ _
  injection e with e
  injection e with e _ _
  subst e
  exact ⟨op, n1, n2, nm, base, len, c, h1, h2, h3⟩
/-- The cells of one tree of a row, in a later world. -/
theorem cells_at {w w' : World} {g i : Nat} {c0 c1 c2 c3 c4 : Value} (h : cellsE w g i (at5 c0 c1 c2 c3 c4)) (e : Ext w w') (hg : g < w.heap.size) :
    w'.cell? ⟨g, i * 5, none⟩ = some c0 ∧ w'.cell? ⟨g, i * 5 + 1, none⟩ = some c1 ∧ w'.cell? ⟨g, i * 5 + 2, none⟩ = some c2 ∧ w'.cell? ⟨g, i * 5 + 3, none⟩ = some c3 ∧ w'.cell? ⟨g, i * 5 + 4, none⟩ = some c4 ∧ g < w'.heap.size :=
  ⟨(e.cells.1 _ _ hg).trans (h 0 (by decide)), (e.cells.1 _ _ hg).trans (h 1 (by decide)), (e.cells.1 _ _ hg).trans (h 2 (by decide)), (e.cells.1 _ _ hg).trans (h 3 (by decide)), (e.cells.1 _ _ hg).trans (h 4 (by decide)), Nat.lt_of_lt_of_le hg e.size⟩

theorem info29 : (Try.prog.info? 29).map (fun i => (i.zero, i.size, i.bytes)) = some (some (.agg #[.string ⟨#[]⟩, .int .i64 0, .int .i64 0, .string ⟨#[]⟩, .slice none 0 0]), 5, 72) := by kernel_rfl

/-- 'append' of one tree. -/
theorem append_tree {ops : Array Oper} {rest : List Oper} {o : Oper} {a : Act} {Q : Exit → Act → World → Prop} {w : World} (hgd : o.guard = none) (s x : Operand)
    (ho : o.op = .call { callee := .builtin .append, args := #[s, x], argTypes := #[27, 27] }) (B : Nat) (v : Value) (ts : List Ex) (hs : a.eval s = v) (hF : FR B w v ts)
    (p : Nat) (u : Value) (t : Ex) (hx : a.eval x = .slice (some ⟨p, 0, none⟩) 1 1) (hp : w.heap[p]? = some (.cells (cellsV u).toArray 29)) (hu : Rd (Off v) w t u) (hn : ts.length < 1000000) (hB : B ≤ w.heap.size)
    (h : ∀ g cap w', FR B w' (.slice (some ⟨g, 0, none⟩) (ts.length + 1) cap) (ts ++ [t]) → Below B w w' → wpList Try.prog ops Q rest (a.put o.dst (.slice (some ⟨g, 0, none⟩) (ts.length + 1) cap)) w') : wpList Try.prog ops Q (o :: rest) a w := by
  obtain ⟨us, hl, ho', hr⟩ := hF
  obtain ⟨i0, hi, hz0, hz1, hz2⟩ := info_parts info29
  have h5 := hu.cells5
  refine wpList_append_lies w hgd s x 27 ho B 29 i0 _ 5 72 Try.underlying27 hi hz0 hz1 hz2 rfl (by decide) v ts.length _ hs ho' ⟨p, 0, none⟩ 1 1 (cellsV u) hx (by rw [h5.1]) ?_ h5.2 (by decide) (by unfold maxLen; omega) (by omega) hB w.heap.size rfl ?_
  · refine news5 h5.1 fun j hj => ?_
    rw [cell_of_row w p _ _ _ _ hp]
    simp
  · intro g cap w' hw hg hat hlt
    refine h g cap w' (FR.push us hl hr hu hw hg hat) ⟨hg.os, hg.tape, hg.output, hg.size, fun k hk => hg.block k (by omega) ?_⟩
    intro e
    have := ho'.lt k e.symm
    omega
end Go.Proofs.Ytgkdeknfmmgbdaa

namespace Go.Proofs.Ytgkdeknfmmgbdaa
set_option linter.unusedVariables false
set_option linter.unusedSimpArgs false
open Go.RowKit

/-- What Mod gives. -/
abbrev modZ (n m : Int) : Int := n % m
theorem tmod_bd (n : Int) {m : Int} (hm : 0 < m) : -m < n.tmod m ∧ n.tmod m < m := by
  have h1 := Int.tmod_lt_of_pos n hm
  have h2 := Int.tmod_lt_of_pos (-n) hm
  rw [Int.neg_tmod] at h2
  exact ⟨by omega, h1⟩
theorem modZ_eq (n m : Int) : (n.tmod m + m) % m = n % m := by
  rw [Int.add_emod_right]
  conv => rhs; rw [← Int.tmod_add_mul_tdiv n m]
  rw [Int.add_mul_emod_self_left]
theorem modZ_bd (n : Int) {m : Int} (hm : 0 < m) : 0 ≤ modZ n m ∧ modZ n m < m :=
  ⟨Int.emod_nonneg _ (by omega), Int.emod_lt_of_pos _ hm⟩

set_option maxHeartbeats 400000 in
theorem Mod_any (n m : Int) (hm : 0 < m) (hm2 : m ≤ 1000000) (h1 : -9223372036854775808 ≤ n) (h2 : n ≤ 9223372036854775807) (w : World) :
    Calls Try.prog 39 #[.int .i64 n, .int .i64 m] w fun e w' => e = .returned (.int .i64 (modZ n m)) ∧ w = w' := by
  have hm0 : ¬ m = 0 := by omega
  have b := tmod_bd n hm
  have HE := Lib.hid (modZ_eq n m)
  go_enter Try.func39, Try.ntmps39
  go_wp2
  go_ret
  exact ⟨by rw [HE.out]; rfl, rfl⟩

theorem Names_any (w : World) : Calls Try.prog 41 #[] w fun e w' => ∃ p, e = .returned (.slice (some ⟨p, 0, none⟩) 4 4) ∧ w.heap.size ≤ p ∧ w'.heap[p]? = some (.cells #[.string priceB, .string lowB, .string qualB, .string ⟨#[100, 97, 121, 115]⟩] 9) ∧ Ext w w' := by
  go_enter Try.func41, Try.ntmps41
  go_wp2
  go_ret
  exact ⟨_, rfl, Nat.le_refl _, block_new rfl, (by with_reducible repeat (first | exact Ext.refl _ | assumption | apply Ext.drewN | apply Ext.drew | apply Ext.alloc | (refine Ext.setCell ?_ (by simp <;> omega) _) | (refine Ext.trans ?_ (by assumption))))⟩

theorem small_any' (n : Int) (h : -1000000000 < n ∧ n < 1000000000) (w : World) : Calls Try.prog 67 #[.int .i64 n] w fun e w' => e = .returned (.bool true) ∧ w = w' := by
  obtain ⟨h1, h2⟩ := h
  go_enter Try.func67, Try.ntmps67
  go_wp2
  go_ret
  exact ⟨rfl, rfl⟩

/-- num / den in lowest terms, den positive. -/
def quickZ (n d : Int) : Int × Int := (n.tdiv (Int.gcd n d : Int), d.tdiv (Int.gcd n d : Int))
theorem quick_any (n d : Int) (hn : -1000000 ≤ n ∧ n ≤ 1000000) (hd : 1 ≤ d ∧ d ≤ 1000000) (w : World) : Calls Try.prog 52 #[.int .i64 n, .int .i64 d] w fun e w' => e = .returned (rv (quickZ n d)) ∧ Ext w w' := by
  obtain ⟨n1, n2⟩ := hn
  obtain ⟨d1, d2⟩ := hd
  have hG : 1 ≤ Int.gcd n d := by
    have := Int.gcd_pos_of_ne_zero_right n (show d ≠ 0 by omega); omega
  have hGd : (Int.gcd n d : Int) ≤ d := Int.le_of_dvd (by omega) (Int.gcd_dvd_right _ _)
  have hM : max n (-n) = (n.natAbs : Int) := by rw [Int.max_def]; split <;> omega
  have HG := Lib.hid (show Nat.gcd n.natAbs d.natAbs = Int.gcd n d from rfl)
  have HQ := Lib.hid (show quickZ n d = (n.tdiv (Int.gcd n d : Int), d.tdiv (Int.gcd n d : Int)) from rfl)
  generalize Int.gcd n d = G at *
  have HM := Lib.hid hM
  clear hM
  go_enter Try.func52, Try.ntmps52
  go_wp2
  rw [HM.out]
  go_loop [5, 6] (fun x y => ∃ p q : Nat, p ≤ 1000000 ∧ q ≤ 1000000 ∧ x = .int .i64 p ∧ y = .int .i64 q ∧ Hid (Nat.gcd p q = G)) (fun _ y => (intOf y).toNat)
  case atStart => exact ⟨n.natAbs, d.natAbs, by omega, by omega, rfl, by rw [show d = (d.natAbs : Int) by omega]; rfl, HG⟩
  case round =>
    obtain ⟨p, q, hp, hq, rfl, rfl, hg⟩ := hrel
    rcases Nat.eq_zero_or_pos q with h0 | hlt
    · subst h0
      have hpG : p = G := by have := hg.out; simpa using this
      subst hpG
      have hne : ¬ p = 0 := by omega
      have e1 : IntKind.i64.wrap (n.tdiv (p : Int)) = n.tdiv (p : Int) := by
        have h3 := Int.natAbs_tdiv_le_natAbs n (p : Int)
        rw [IntKind.wrap_i64]; omega
      have e2 : IntKind.i64.wrap (d.tdiv (p : Int)) = d.tdiv (p : Int) := by
        have h3 := Int.natAbs_tdiv_le_natAbs d (p : Int)
        rw [IntKind.wrap_i64]; omega
      have E1 := Lib.hid e1; have E2 := Lib.hid e2
      have E3 := Lib.hid (show d / (p : Int) = d.tdiv (p : Int) from (Int.tdiv_eq_ediv_of_nonneg (by omega)).symm)
      clear e1 e2
      go_wp2_with (fail)
      refine Rr.wp_region [(0, .y), (1, .y), (2, .y), (3, .y), (4, .y), (5, .y), (6, .y)] (fun _ => (.cells #[] 29, Rg.ptr)) (by kernel_rfl) (by kernel_rfl) ?_
      (refine Rr.wr_y (by simp only [List.getElem?_toArray, List.getElem?_cons_succ, List.getElem?_cons_zero]; rfl) (by rfl) ?_
       apply Exists.intro
       refine ⟨fun wz hw _ => ?_, ?_⟩
       · have hcz := hw.cells.1
         go_simp
         (with_reducible exact Rg.up_value)
       simp only [Act.put, List.setIfInBounds_toArray, List.set_cons_zero, List.set_cons_succ])
      (refine Rr.wr_y (by simp only [List.getElem?_toArray, List.getElem?_cons_succ, List.getElem?_cons_zero]; rfl) (by rfl) ?_
       apply Exists.intro
       refine ⟨fun wz hw _ => ?_, ?_⟩
       · have hcz := hw.cells.1
         go_simp
         (with_reducible exact Rg.up_value)
       simp only [Act.put, List.setIfInBounds_toArray, List.set_cons_zero, List.set_cons_succ])
      (refine Rr.wr_y (by simp only [List.getElem?_toArray, List.getElem?_cons_succ, List.getElem?_cons_zero]; rfl) (by rfl) ?_
       apply Exists.intro
       refine ⟨fun wz hw _ => ?_, ?_⟩
       · have hcz := hw.cells.1
         go_simp
         (with_reducible exact Rg.up_value)
       simp only [Act.put, List.setIfInBounds_toArray, List.set_cons_zero, List.set_cons_succ])
      (refine Rr.wr_y (by simp only [List.getElem?_toArray, List.getElem?_cons_succ, List.getElem?_cons_zero]; rfl) (by rfl) ?_
       apply Exists.intro
       refine ⟨fun wz hw _ => ?_, ?_⟩
       · have hcz := hw.cells.1
         go_simp
         (with_reducible exact Rg.up_value)
       simp only [Act.put, List.setIfInBounds_toArray, List.set_cons_zero, List.set_cons_succ])
      (refine Rr.wr_y (by simp only [List.getElem?_toArray, List.getElem?_cons_succ, List.getElem?_cons_zero]; rfl) (by rfl) ?_
       apply Exists.intro
       refine ⟨fun wz hw _ => ?_, ?_⟩
       · have hcz := hw.cells.1
         go_simp
         (with_reducible exact Rg.up_value)
       simp only [Act.put, List.setIfInBounds_toArray, List.set_cons_zero, List.set_cons_succ])
      (refine Rr.wr_y (by simp only [List.getElem?_toArray, List.getElem?_cons_succ, List.getElem?_cons_zero]; rfl) (by rfl) ?_
       apply Exists.intro
       refine ⟨fun wz hw _ => ?_, ?_⟩
       · have hcz := hw.cells.1
         go_simp
         (with_reducible exact Rg.up_value)
       simp only [Act.put, List.setIfInBounds_toArray, List.set_cons_zero, List.set_cons_succ])
      (refine Rr.wr_y (by simp only [List.getElem?_toArray, List.getElem?_cons_succ, List.getElem?_cons_zero]; rfl) (by rfl) ?_
       apply Exists.intro
       refine ⟨fun wz hw _ => ?_, ?_⟩
       · have hcz := hw.cells.1
         go_simp
         (with_reducible exact Rg.up_value)
       simp only [Act.put, List.setIfInBounds_toArray, List.set_cons_zero, List.set_cons_succ])
      refine Rr.wr_nil ?_
      intro wy hy hh
      simp only [List.length_cons, List.length_nil, List.drop_succ_cons, List.drop_zero, Nat.reduceAdd]
      obtain ⟨hcy, hfy⟩ := hy.cells
      clear hh
      go_wp2
      rw [E3.out]
      exact bodyPost_ret (v := rv (n.tdiv (p : Int), d.tdiv (p : Int))) (by simp [results, Try.results52, go_sem, hcy]) rfl ⟨by rw [HQ.out], (by with_reducible repeat (first | exact Ext.refl _ | assumption | apply Ext.drewN | apply Ext.drew | apply Ext.alloc | (refine Ext.setCell ?_ (by simp <;> omega) _) | (refine Ext.trans ?_ (by assumption))))⟩
    · have hne : ¬ q = 0 := by omega
      have hl := Nat.mod_lt p hlt
      go_wp2
      go_round
      case rel => exact ⟨q, p % q, hq, by omega, rfl, by simp, Lib.hid (by rw [← hg.out, gcd_step p q hlt])⟩
      case measure => simp [intOf]; omega

theorem Make_any (n d : Int) (hn : -1000000 ≤ n ∧ n ≤ 1000000) (hd : 1 ≤ d ∧ d ≤ 1000000) (w : World) : Calls Try.prog 40 #[.int .i64 n, .int .i64 d] w fun e w' => e = .returned (.tuple #[rv (quickZ n d), .bool true]) ∧ Ext w w' := by
  have hN : -1000000000 < n ∧ n < 1000000000 := ⟨by omega, by omega⟩
  have hD : -1000000000 < d ∧ d < 1000000000 := ⟨by omega, by omega⟩
  have hd0 : ¬ d = 0 := by omega
  have HQ := Lib.hid (quick_any n d hn hd)
  generalize quickZ n d = q at *
  obtain ⟨q1, q2⟩ := q
  go_enter Try.func40, Try.ntmps40
  go_wp2_with (first
    | (go_at_call 67; (with_reducible refine (small_any' _ (by assumption) _).mono ?_); rintro e w1 ⟨rfl, rfl⟩)
    | (go_at_call 52; (with_reducible refine (HQ.out _).mono ?_); rintro e w1 ⟨rfl, hb⟩; obtain ⟨hc, hf⟩ := hb.cells; have hz := hb.size; simp at hz; have z1 : w.heap.size < w1.heap.size := (by omega)))
  exact bodyPost_ret (v := rbv ((q1, q2), true)) (by simp [results, Try.results40, go_sem, hc]) rfl ⟨rfl, (by with_reducible repeat (first | exact Ext.refl _ | assumption | apply Ext.drewN | apply Ext.drew | apply Ext.alloc | (refine Ext.setCell ?_ (by simp <;> omega) _) | (refine Ext.trans ?_ (by assumption))))⟩
end Go.Proofs.Ytgkdeknfmmgbdaa

namespace Go.Proofs.Ytgkdeknfmmgbdaa
set_option linter.unusedVariables false
set_option linter.unusedSimpArgs false
open Go.RowKit

def nameB4 : Nat → ByteArray
  | 0 => priceB | 1 => lowB | 2 => qualB | _ => ⟨#[100, 97, 121, 115]⟩
/-- One number more. -/
def madeStep (st : List Ex) (z : Int) : List Ex :=
  let n := modZ z 1000
  if n % 10 = 0 ∨ n % 10 = 1 then st ++ [numE (quickZ (n / 10 % 13 - 3) (1 + n / 10 / 13 % 4))]
  else if n % 10 = 2 ∨ n % 10 = 3 ∨ n % 10 = 4 then st ++ [nameE (nameB4 (n / 10 % 4).toNat)]
  else match st.reverse with
    | b :: a :: r => r.reverse ++ [opE' (opNm (n / 10 % 6).toNat) a b]
    | _ => st
def madeJoin : Ex → List Ex → Ex
  | e, [] => e
  | e, t :: ts => madeJoin (opE' addB e t) ts
def madeE (l : List Int) : Ex :=
  match (l.take 80).foldl madeStep [] with
  | [] => nameE priceB
  | t :: ts => madeJoin t ts
end Go.Proofs.Ytgkdeknfmmgbdaa

namespace Go.Proofs.Ytgkdeknfmmgbdaa
set_option linter.unusedVariables false
set_option linter.unusedSimpArgs false
open Go.RowKit

/-- The slice v holds the ints, below the block B. -/
def IRd (w : World) (v : Value) (ls : List Int) : Prop :=
  ∃ A cap, v = .slice A ls.length cap ∧ ls.length ≤ 9223372036854775807 ∧ (∀ z ∈ ls, -9223372036854775808 ≤ z ∧ z ≤ 9223372036854775807) ∧
    (ls = [] ∨ ∃ b off, A = some ⟨b, off, none⟩ ∧ ∀ k (h : k < ls.length), w.cell? ⟨b, off + k, none⟩ = some (.int .i64 ls[k]))
theorem IRd.ext {w w' : World} {v : Value} {ls : List Int} (h : IRd w v ls) (e : Ext w w') : IRd w' v ls := by
  obtain ⟨A, cap, h1, h2, h3, h4⟩ := h
  exact ⟨A, cap, h1, h2, h3, h4.imp id fun ⟨b, off, ha, hc⟩ => ⟨b, off, ha, fun k hk => (e.cells.1 _ _ (World.block_lt_of_cell? w _ (hc k hk))).trans (hc k hk)⟩⟩

theorem FR.shape {B : Nat} {w : World} {v : Value} {ts : List Ex} (h : FR B w v ts) : ∃ A cap, v = .slice A ts.length cap := by
  obtain ⟨us, hl, ho, hr⟩ := h
  rcases ho.2 with ⟨rfl, h0⟩ | ⟨g, cap, cur, rfl, _⟩
  · exact ⟨none, 0, by rw [h0]⟩
  · exact ⟨_, cap, rfl⟩
theorem FR.trunc {B g cap : Nat} {w : World} {ts : List Ex} (h : FR B w (.slice (some ⟨g, 0, none⟩) ts.length cap) ts) (m : Nat) (hm : m ≤ ts.length) : FR B w (.slice (some ⟨g, 0, none⟩) m cap) (ts.take m) := by
  obtain ⟨us, hl, ho, hr⟩ := h
  have h5 := FR.five (B := B) hl hr
  have hlen : (ts.take m).length = m := by rw [List.length_take]; omega
  refine ⟨us.take m, by rw [List.length_take, List.length_take, hl], ?_, ?_⟩
  · rw [hlen]
    rcases ho with ⟨hxs, ⟨h', _⟩ | ⟨g', cap', cur, h', hb, hg, hnc, hcm, hcs, htake⟩⟩
    · cases h'
    · injection h' with e1 _ e3
      injection e1 with e1
      injection e1 with e1 _ _
      subst e1 e3
      have key : ∀ (us : List Value) (m : Nat), (∀ u ∈ us, (cellsV u).length = 5 ∧ ∀ c ∈ cellsV u, c.oneCell' = true) → (us.take m).flatMap cellsV = (us.flatMap cellsV).take (m * 5) := by
        intro us
        induction us with
        | nil => intro m _; simp
        | cons u us ih =>
          intro m h
          cases m with
          | zero => simp
          | succ m =>
            have hu := (h u List.mem_cons_self).1
            rw [List.take_succ_cons, List.flatMap_cons, List.flatMap_cons, ih m (fun x hx => h x (List.mem_cons_of_mem _ hx)), List.take_append, hu, show (m + 1) * 5 - 5 = m * 5 by omega, List.take_of_length_le (l := cellsV u) (by rw [hu]; omega)]
      rw [key us m h5]
      refine ⟨by rw [List.length_take, hxs]; omega, .inr ⟨g, cap, cur, rfl, hb, hg, by omega, hcm, hcs, ?_⟩⟩
      rw [← htake, List.take_take]
      congr 1
      omega
  · intro i hi hi'
    rw [List.getElem_take, List.getElem_take]
    exact hr i (by rw [hlen] at hi; omega) (by rw [List.length_take] at hi'; omega)

/-- A pair of trees in a block. -/
theorem rd_pair {S : Nat → Prop} {w : World} {s : ByteArray} {ta tb : Ex} {p : Nat} {a0 a1 a2 a3 a4 b0 b1 b2 b3 b4 : Value} (hh : w.heap[p]? = some (.cells #[a0, a1, a2, a3, a4, b0, b1, b2, b3, b4] 29))
    (ha : Rd S w ta (.agg #[a0, a1, a2, a3, a4])) (hb : Rd S w tb (.agg #[b0, b1, b2, b3, b4])) (hp : S p) : Rd S w (.mk s (0, 0) nilB [ta, tb]) (.agg #[.string s, .int .i64 0, .int .i64 0, .string nilB, .slice (some ⟨p, 0, none⟩) 2 2]) := by
  obtain ⟨h0, h1⟩ := cells10 hh
  unfold Rd
  refine ⟨_, _, rfl, I2.zero, by simp, .inr ⟨p, rfl, hp, ?_⟩⟩
  unfold RdL
  refine ⟨⟨_, h0, ha⟩, ?_⟩
  unfold RdL
  exact ⟨⟨_, h1, hb⟩, by unfold RdL; trivial⟩

end Go.Proofs.Ytgkdeknfmmgbdaa
