/-
  Walks of package ratio, the upper layer: times, checked, the four operations, Cmp. Conditions: the ranges of the numbers.
-/
import Derived.Test.YtgkdeknfmmgbdaaRatC
namespace Go.Proofs.Ytgkdeknfmmgbdaa
set_option linter.unusedVariables false
set_option linter.unusedSimpArgs false
open Go.RowKit

/-- What 'times' computes. -/
def timesS (xn : Bool) (n1 d1 : Int) (yn : Bool) (n2 d2 : Int) : (Int × Int) × Bool :=
  if n1 = 0 ∨ n2 = 0 then ((0, 1), true)
  else ratS (!(xn == yn)) (n1 / (Int.gcd n1 d2 : Int) * (n2 / (Int.gcd n2 d1 : Int))) (d1 / (Int.gcd n2 d1 : Int) * (d2 / (Int.gcd n1 d2 : Int)))

set_option maxRecDepth 100000 in
set_option maxHeartbeats 2000000 in
theorem times_zero (xn : Bool) (n1 d1 : Int) (yn : Bool) (n2 d2 : Int) (h : n1 = 0 ∨ (¬ n1 = 0 ∧ n2 = 0)) (w : World) :
    Calls Try.prog 105 #[.agg #[.bool xn, .int .u64 n1, .int .u64 d1], .agg #[.bool yn, .int .u64 n2, .int .u64 d2]] w fun e w' => e = .returned (rbv ((0, 1), true)) ∧ Ext w w' := by
  rcases h with rfl | ⟨h, rfl⟩
  all_goals
    go_enter Try.func105, Try.ntmps105
    go_wp2_with (go_at_call 107; refine (zero_any _).mono ?_; rintro e w1 ⟨rfl, hb⟩; obtain ⟨hc, hf⟩ := hb.cells)
    exact bodyPost_ret (v := rbv ((0, 1), true)) (by simp [results, Try.results105, go_sem, hc]) rfl ⟨rfl, (by with_reducible repeat (first | exact Ext.refl _ | assumption | apply Ext.drewN | apply Ext.drew | apply Ext.alloc | (refine Ext.setCell ?_ (by simp <;> omega) _) | (refine Ext.trans ?_ (by assumption))))⟩

structure TimesOk (n1 d1 n2 d2 : Int) : Prop where
  n1 : 0 ≤ n1 ∧ n1 ≤ 9223372036854775808
  n2 : 0 ≤ n2 ∧ n2 ≤ 9223372036854775808
  d1 : 1 ≤ d1 ∧ d1 ≤ 9223372036854775808
  d2 : 1 ≤ d2 ∧ d2 ≤ 9223372036854775808

set_option maxRecDepth 100000 in
set_option maxHeartbeats 2000000 in
theorem times_walk (xn : Bool) (n1 d1 : Int) (yn : Bool) (n2 d2 : Int) (h : TimesOk n1 d1 n2 d2) (w : World) :
    Calls Try.prog 105 #[.agg #[.bool xn, .int .u64 n1, .int .u64 d1], .agg #[.bool yn, .int .u64 n2, .int .u64 d2]] w fun e w' => e = .returned (rbv (timesS xn n1 d1 yn n2 d2)) ∧ Ext w w' := by
  obtain ⟨⟨a1, a2⟩, ⟨b1, b2⟩, ⟨c1, c2⟩, ⟨e1, e2⟩⟩ := h
  by_cases h0 : n1 = 0
  · rw [show timesS xn n1 d1 yn n2 d2 = ((0, 1), true) from if_pos (.inl h0)]
    exact times_zero xn n1 d1 yn n2 d2 (.inl h0) w
  by_cases h00 : n2 = 0
  · rw [show timesS xn n1 d1 yn n2 d2 = ((0, 1), true) from if_pos (.inr h00)]
    exact times_zero xn n1 d1 yn n2 d2 (.inr ⟨h0, h00⟩) w
  have HS := Lib.hid (show timesS xn n1 d1 yn n2 d2 = _ from if_neg (fun h => h.elim h0 h00))
  have hg1 : (1 : Int) ≤ Int.gcd n1 d2 := one_le_gcd d2 (by omega)
  have hh1 : (1 : Int) ≤ Int.gcd n2 d1 := one_le_gcd d1 (by omega)
  obtain ⟨g, hg⟩ : ∃ g : Int, g = Int.gcd n1 d2 := ⟨_, rfl⟩
  obtain ⟨h, hh⟩ : ∃ h : Int, h = Int.gcd n2 d1 := ⟨_, rfl⟩
  rw [← hg] at hg1
  rw [← hh] at hh1
  have p1 := div_le_of (a := n1) (g := g) a1 hg1
  have p2 := div_le_of (a := n2) (g := h) b1 hh1
  have p3 := div_le_of (a := d1) (g := h) (by omega) hh1
  have p4 := div_le_of (a := d2) (g := g) (by omega) hg1
  have q1 := quo_u64 (a := n1) (g := g) a1 hg1 (by omega)
  have q2 := quo_u64 (a := n2) (g := h) b1 hh1 (by omega)
  have q3 := quo_u64 (a := d1) (g := h) (by omega) hh1 (by omega)
  have q4 := quo_u64 (a := d2) (g := g) (by omega) hg1 (by omega)
  have l1 := mul_le_of p1.1 (show n1 / g ≤ 9223372036854775808 by omega) p2.1 (show n2 / h ≤ 9223372036854775808 by omega)
  have l2 := mul_le_of p3.1 (show d1 / h ≤ 9223372036854775808 by omega) p4.1 (show d2 / g ≤ 9223372036854775808 by omega)
  have w1 : Wide (n1 / g * (n2 / h)) := ⟨l1.1, by omega⟩
  have w2 : Wide (d1 / h * (d2 / g)) := ⟨l2.1, by omega⟩
  have HP := Lib.hid (product_w (n1 / g) (n2 / h) p1.1 (by omega) p2.1 (by omega))
  have HQ := Lib.hid (product_w (d1 / h) (d2 / g) p3.1 (by omega) p4.1 (by omega))
  have HR := Lib.hid (rat_any (!(xn == yn)) (n1 / g * (n2 / h)) (d1 / h * (d2 / g)) w1 w2)
  have Hg := Lib.hid hg; have Hh := Lib.hid hh
  have hgne : ¬ g = 0 := by omega
  have hhne : ¬ h = 0 := by omega
  have HG1 := Lib.hid (fun w => (gcd_z n1 d2 a1 (by omega) (by omega) (by omega) w).mono fun _ _ hx => (⟨hx.1.trans (by rw [hg]), hx.2⟩ : _ = Ending.returned (.int .u64 g) ∧ _))
  have HG2 := Lib.hid (fun w => (gcd_z n2 d1 b1 (by omega) (by omega) (by omega) w).mono fun _ _ hx => (⟨hx.1.trans (by rw [hh]), hx.2⟩ : _ = Ending.returned (.int .u64 h) ∧ _))
  have hb1 : (n1 == 0) = false := by simpa using h0
  have hb2 : (n2 == 0) = false := by simpa using h00
  clear hg hh l1 l2 w1 w2 h0 h00
  go_enter Try.func105, Try.ntmps105
  go_wp2

  go_quiet (first | (with_reducible exact Calls.quiet_of (HG1.out _)) | (with_reducible exact Calls.quiet_of (HG2.out _)))
  go_wp2
  refine Rg.wp_region 26 26 (fun _ => none) (fun _ _ => rfl) (by kernel_rfl) (by kernel_rfl) ?_
  simp only [List.take_succ_cons, List.take_zero, List.drop_succ_cons, List.drop_zero]
  repeat
    (refine Rg.wk_step (by rfl) ?_
     apply Exists.intro
     refine ⟨fun wz hw => ?_, ?_⟩
     · obtain ⟨hc, hf⟩ := hw.cells
       go_simp
       first
         | exact Rg.up_value
         | (apply Rg.up_enter; (with_reducible refine (HP.out _).mono ?_); rintro e w1 ⟨rfl, hb1⟩; exact ⟨rfl, hb1⟩)
         | (apply Rg.up_enter; (with_reducible refine (HQ.out _).mono ?_); rintro e w1 ⟨rfl, hb1⟩; exact ⟨rfl, hb1⟩)
         | (apply Rg.up_enter; (with_reducible refine (HR.out _).mono ?_); rintro e w1 ⟨rfl, hb1⟩; exact ⟨rfl, hb1⟩)
     simp only [Act.put, List.setIfInBounds_toArray, List.set_cons_zero, List.set_cons_succ])
  refine Rg.wk_nil (Rg.fin0 rfl ?_)
  intro wx hx
  obtain ⟨hc, hf⟩ := hx.cells
  have y1 : w.heap.size + 1 + 1 < wx.heap.size := by have := hx.size; simp at this; omega
  go_wp2
  exact bodyPost_ret (v := rbv (ratS (!(xn == yn)) (n1 / g * (n2 / h)) (d1 / h * (d2 / g)))) (by simp [results, Try.results105, go_sem, hc]) rfl ⟨by rw [HS.out, Hg.out, Hh.out], (by with_reducible repeat (first | exact Ext.refl _ | assumption | apply Ext.drewN | apply Ext.drew | apply Ext.alloc | (refine Ext.setCell ?_ (by simp <;> omega) _) | (refine Ext.trans ?_ (by assumption))))⟩

/-- A function of package ratio that 'checked' may be given: f, with what it holds. -/
def RunOk (f : FuncId) (cap : Array Value) (x y : Value) (v : Value) (w : World) : Prop :=
  ∀ w', Ext w w' → Calls Try.prog f (#[x, y] ++ cap) w' fun e w'' => e = .returned v ∧ Ext w' w''

abbrev fv (neg : Bool) (n d : Int) : Value := .agg #[.bool neg, .int .u64 n, .int .u64 d]

set_option maxHeartbeats 1000000 in
theorem checked_no (n d m c : Int) (h1 : -9223372036854775808 ≤ n) (h2 : n ≤ 9223372036854775807) (h4 : d ≤ 9223372036854775807) (h5 : -9223372036854775808 ≤ m) (h6 : m ≤ 9223372036854775807) (h8 : c ≤ 9223372036854775807) (f : FuncId) (cap : Array Value)
    (hr : (rightB n d && rightB m c) = false) (w : World) :
    Calls Try.prog 102 #[.agg #[.int .i64 n, .int .i64 d], .agg #[.int .i64 m, .int .i64 c], .func (.func f) #[] cap] w fun e w' => e = .returned (rbv ((0, 1), false)) ∧ Ext w w' := by
  have Hr := Lib.hid hr; clear hr
  go_enter Try.func102, Try.ntmps102
  go_wp2_with (first
    | (go_at_call 108; refine (both_any n d m c h1 h2 h4 h5 h6 h8 _).mono ?_; rintro e w1 ⟨rfl, hb⟩; rw [Hr.out]; obtain ⟨hc, hf⟩ := hb.cells; have hz := hb.size; simp at hz; have z0 : w.heap.size + 1 + 1 < w1.heap.size := (by omega))
    | (go_at_call 107; refine (zero_any _).mono ?_; rintro e w2 ⟨rfl, hb2⟩; obtain ⟨hc2, hf2⟩ := hb2.cells))
  exact bodyPost_ret (v := rbv ((0, 1), false)) (by simp [results, Try.results102, go_sem, hc, hc2, z0]) rfl ⟨rfl, (by with_reducible repeat (first | exact Ext.refl _ | assumption | apply Ext.drewN | apply Ext.drew | apply Ext.alloc | (refine Ext.setCell ?_ (by simp <;> omega) _) | (refine Ext.trans ?_ (by assumption))))⟩

set_option maxRecDepth 100000 in
set_option maxHeartbeats 1000000 in
theorem checked_yes (n d m c : Int) (h1 : -9223372036854775808 ≤ n) (h2 : n ≤ 9223372036854775807) (h3 : -9223372036854775808 ≤ d) (h4 : d ≤ 9223372036854775807) (h5 : -9223372036854775808 ≤ m) (h6 : m ≤ 9223372036854775807) (h7 : -9223372036854775808 ≤ c) (h8 : c ≤ 9223372036854775807) (f : FuncId) (cap : Array Value)
    (hr : (rightB n d && rightB m c) = true) (w : World) (p : (Int × Int) × Bool) (hF : RunOk f cap (fv (decide (n < 0)) (sizeZ n) (sizeZ d)) (fv (decide (m < 0)) (sizeZ m) (sizeZ c)) (rbv p) w) (hE : ∀ args w, (callFunc f args).run Try.prog w = .ok (.enter f args) w) :
    Calls Try.prog 102 #[.agg #[.int .i64 n, .int .i64 d], .agg #[.int .i64 m, .int .i64 c], .func (.func f) #[] cap] w fun e w' => e = .returned (rbv p) ∧ Ext w w' := by
  have Hr := Lib.hid hr; clear hr
  unfold RunOk at hF
  have HF := Lib.hid hF; clear hF
  have HO1 := Lib.hid (of_any n d h1 h2 h3 h4); have HO2 := Lib.hid (of_any m c h5 h6 h7 h8)
  go_enter Try.func102, Try.ntmps102
  go_wp2_with (go_at_call 108; refine (both_any n d m c h1 h2 h4 h5 h6 h8 _).mono ?_; rintro e w1 ⟨rfl, hb⟩; rw [Hr.out]; obtain ⟨hc, hf⟩ := hb.cells; have hz := hb.size; simp at hz; have z0 : w.heap.size + 1 + 1 < w1.heap.size := (by omega); have z1 : w.heap.size + 1 < w1.heap.size := (by omega); have z2 : w.heap.size < w1.heap.size := (by omega))
  have hww : Ext w w1 := Ext.trans ((((Ext.refl _).alloc _).alloc _).alloc _) hb
  refine Rg.wp_region 8 8 (fun _ => none) (fun _ _ => rfl) (by kernel_rfl) (by kernel_rfl) ?_
  simp only [List.take_succ_cons, List.take_zero, List.drop_succ_cons, List.drop_zero]
  repeat
    (refine Rg.wk_step (by rfl) ?_
     apply Exists.intro
     refine ⟨fun wz hw => ?_, ?_⟩
     · obtain ⟨hc, hf⟩ := hw.cells
       go_simp
       first
         | exact Rg.up_value
         | (apply Rg.up_enter; (with_reducible refine (HO1.out _).mono ?_); rintro e w1 ⟨rfl, hb1⟩; exact ⟨rfl, hb1⟩)
         | (apply Rg.up_enter; (with_reducible refine (HO2.out _).mono ?_); rintro e w1 ⟨rfl, hb1⟩; exact ⟨rfl, hb1⟩)
         | (apply Rg.up_enter; (with_reducible refine (HF.out _ (hww.trans hw)).mono ?_); rintro e w1 ⟨rfl, hb1⟩; exact ⟨rfl, hb1⟩)
     simp only [Act.put, List.setIfInBounds_toArray, List.set_cons_zero, List.set_cons_succ])
  refine Rg.wk_nil (Rg.fin0 rfl ?_)
  intro wx hx
  obtain ⟨hc2, hf2⟩ := hx.cells
  have y1 : w.heap.size + 1 + 1 < wx.heap.size := by have := hx.size; omega
  go_wp2
  exact bodyPost_ret (v := rbv p) (by simp [results, Try.results102, go_sem, hc, hc2, z0]) rfl ⟨rfl, (by with_reducible repeat (first | exact Ext.refl _ | assumption | apply Ext.drewN | apply Ext.drew | apply Ext.alloc | (refine Ext.setCell ?_ (by simp <;> omega) _) | (refine Ext.trans ?_ (by assumption))))⟩

theorem enters103 (args : Array Value) (w : World) : (callFunc 103 args).run Try.prog w = .ok (.enter 103 args) w := by go_simp
theorem enters104 (args : Array Value) (w : World) : (callFunc 104 args).run Try.prog w = .ok (.enter 104 args) w := by go_simp
theorem enters105 (args : Array Value) (w : World) : (callFunc 105 args).run Try.prog w = .ok (.enter 105 args) w := by go_simp
theorem enters106 (args : Array Value) (w : World) : (callFunc 106 args).run Try.prog w = .ok (.enter 106 args) w := by go_simp

end Go.Proofs.Ytgkdeknfmmgbdaa
