/-
  Lemmas of this claim (JtE). Nothing is asked.
-/
import Derived.Test.YteomcpplajeidaaGreatJtD
namespace Go.Proofs.YteomcpplajeidaaGreat
set_option linter.unusedVariables false
set_option linter.unusedSimpArgs false
set_option maxRecDepth 100000
open Go.RowKit
def timesS (xn : Bool) (n1 d1 : Int) (yn : Bool) (n2 d2 : Int) : (Int × Int) × Bool :=
  if n1 = 0 ∨ n2 = 0 then ((0, 1), true)
  else ratS (!(xn == yn)) (n1 / (Int.gcd n1 d2 : Int) * (n2 / (Int.gcd n2 d1 : Int))) (d1 / (Int.gcd n2 d1 : Int) * (d2 / (Int.gcd n1 d2 : Int)))
set_option maxRecDepth 100000 in
set_option maxHeartbeats 2000000 in
theorem times_zero (xn : Bool) (n1 d1 : Int) (yn : Bool) (n2 d2 : Int) (h : n1 = 0 ∨ (¬ n1 = 0 ∧ n2 = 0)) (w : World) :
    Calls Tryz.prog 198 #[.agg #[.bool xn, .int .u64 n1, .int .u64 d1], .agg #[.bool yn, .int .u64 n2, .int .u64 d2]] w fun e w' => e = .returned (rbv ((0, 1), true)) ∧ Ext w w' := by
  rcases h with rfl | ⟨h, rfl⟩
  all_goals
    go_enter Tryz.func198, Tryz.ntmps198
    go_wp2_with (go_at_call 200; refine (zero_any _).mono ?_; rintro e w1 ⟨rfl, hb⟩; obtain ⟨hc, hf⟩ := hb.cells)
    exact bodyPost_ret (v := rbv ((0, 1), true)) (by simp [results, Tryz.results198, go_sem, hc]) rfl ⟨rfl, (by with_reducible repeat (first | exact Ext.refl _ | assumption | apply Ext.drewN | apply Ext.drew | apply Ext.alloc | (refine Ext.setCell ?_ (by simp <;> omega) _) | (refine Ext.trans ?_ (by assumption))))⟩
structure TimesOk (n1 d1 n2 d2 : Int) : Prop where
  n1 : 0 ≤ n1 ∧ n1 ≤ 9223372036854775808
  n2 : 0 ≤ n2 ∧ n2 ≤ 9223372036854775808
  d1 : 1 ≤ d1 ∧ d1 ≤ 9223372036854775808
  d2 : 1 ≤ d2 ∧ d2 ≤ 9223372036854775808
set_option maxRecDepth 100000 in
set_option maxHeartbeats 2000000 in
theorem times_walk (xn : Bool) (n1 d1 : Int) (yn : Bool) (n2 d2 : Int) (h : TimesOk n1 d1 n2 d2) (w : World) :
    Calls Tryz.prog 198 #[.agg #[.bool xn, .int .u64 n1, .int .u64 d1], .agg #[.bool yn, .int .u64 n2, .int .u64 d2]] w fun e w' => e = .returned (rbv (timesS xn n1 d1 yn n2 d2)) ∧ Ext w w' := by
  obtain ⟨⟨a1, a2⟩, ⟨b1, b2⟩, ⟨c1, c2⟩, ⟨e1, e2⟩⟩ := h
  by_cases h0 : n1 = 0
  · rw [show timesS xn n1 d1 yn n2 d2 = ((0, 1), true) from if_pos (.inl h0)]
    exact times_zero xn n1 d1 yn n2 d2 (.inl h0) w
  by_cases h00 : n2 = 0
  · rw [show timesS xn n1 d1 yn n2 d2 = ((0, 1), true) from if_pos (.inr h00)]
    exact times_zero xn n1 d1 yn n2 d2 (.inr ⟨h0, h00⟩) w
  have HS := Lib.hid (show timesS xn n1 d1 yn n2 d2 = _ from if_neg (fun h => h.elim h0 h00))
  have hg1 : (1 : Int) ≤ Int.gcd n1 d2 := one_le_gcd d2 (by omega)
  have hh1 : (1 : Int) ≤ Int.gcd n2 d1 := one_le_gcd d1 (by omega)
  obtain ⟨g, hg⟩ : ∃ g : Int, g = Int.gcd n1 d2 := ⟨_, rfl⟩
  obtain ⟨h, hh⟩ : ∃ h : Int, h = Int.gcd n2 d1 := ⟨_, rfl⟩
  rw [← hg] at hg1
  rw [← hh] at hh1
  have p1 := div_le_of (a := n1) (g := g) a1 hg1
  have p2 := div_le_of (a := n2) (g := h) b1 hh1
  have p3 := div_le_of (a := d1) (g := h) (by omega) hh1
  have p4 := div_le_of (a := d2) (g := g) (by omega) hg1
  have q1 := quo_u64 (a := n1) (g := g) a1 hg1 (by omega)
  have q2 := quo_u64 (a := n2) (g := h) b1 hh1 (by omega)
  have q3 := quo_u64 (a := d1) (g := h) (by omega) hh1 (by omega)
  have q4 := quo_u64 (a := d2) (g := g) (by omega) hg1 (by omega)
  have l1 := mul_le_of p1.1 (show n1 / g ≤ 9223372036854775808 by omega) p2.1 (show n2 / h ≤ 9223372036854775808 by omega)
  have l2 := mul_le_of p3.1 (show d1 / h ≤ 9223372036854775808 by omega) p4.1 (show d2 / g ≤ 9223372036854775808 by omega)
  have w1 : Wide (n1 / g * (n2 / h)) := ⟨l1.1, by omega⟩
  have w2 : Wide (d1 / h * (d2 / g)) := ⟨l2.1, by omega⟩
  have HP := Lib.hid (product_w (n1 / g) (n2 / h) p1.1 (by omega) p2.1 (by omega))
  have HQ := Lib.hid (product_w (d1 / h) (d2 / g) p3.1 (by omega) p4.1 (by omega))
  have HR := Lib.hid (rat_any (!(xn == yn)) (n1 / g * (n2 / h)) (d1 / h * (d2 / g)) w1 w2)
  have Hg := Lib.hid hg; have Hh := Lib.hid hh
  have hgne : ¬ g = 0 := by omega
  have hhne : ¬ h = 0 := by omega
  have HG1 := Lib.hid (fun w => (gcd_z n1 d2 a1 (by omega) (by omega) (by omega) w).mono fun _ _ hx => (⟨hx.1.trans (by rw [hg]), hx.2⟩ : _ = Ending.returned (.int .u64 g) ∧ _))
  have HG2 := Lib.hid (fun w => (gcd_z n2 d1 b1 (by omega) (by omega) (by omega) w).mono fun _ _ hx => (⟨hx.1.trans (by rw [hh]), hx.2⟩ : _ = Ending.returned (.int .u64 h) ∧ _))
  have hb1 : (n1 == 0) = false := by simpa using h0
  have hb2 : (n2 == 0) = false := by simpa using h00
  clear hg hh l1 l2 w1 w2 h0 h00
  go_enter Tryz.func198, Tryz.ntmps198
  go_wp2
  go_quiet (first | (with_reducible exact Calls.quiet_of (HG1.out _)) | (with_reducible exact Calls.quiet_of (HG2.out _)))
  go_wp2
  refine Rg.wp_region 26 26 (fun _ => none) (fun _ _ => rfl) (by kernel_rfl) (by kernel_rfl) ?_
  simp only [List.take_succ_cons, List.take_zero, List.drop_succ_cons, List.drop_zero]
  repeat
    (refine Rg.wk_step (by rfl) ?_
     apply Exists.intro
     refine ⟨fun wz hw => ?_, ?_⟩
     · obtain ⟨hc, hf⟩ := hw.cells
       go_simp
       first
         | exact Rg.up_value
         | (apply Rg.up_enter; (with_reducible refine (HP.out _).mono ?_); rintro e w1 ⟨rfl, hb1⟩; exact ⟨rfl, hb1⟩)
         | (apply Rg.up_enter; (with_reducible refine (HQ.out _).mono ?_); rintro e w1 ⟨rfl, hb1⟩; exact ⟨rfl, hb1⟩)
         | (apply Rg.up_enter; (with_reducible refine (HR.out _).mono ?_); rintro e w1 ⟨rfl, hb1⟩; exact ⟨rfl, hb1⟩)
     simp only [Act.put, List.setIfInBounds_toArray, List.set_cons_zero, List.set_cons_succ])
  refine Rg.wk_nil (Rg.fin0 rfl ?_)
  intro wx hx
  obtain ⟨hc, hf⟩ := hx.cells
  have y1 : w.heap.size + 1 + 1 < wx.heap.size := by have := hx.size; simp at this; omega
  go_wp2
  exact bodyPost_ret (v := rbv (ratS (!(xn == yn)) (n1 / g * (n2 / h)) (d1 / h * (d2 / g)))) (by simp [results, Tryz.results198, go_sem, hc]) rfl ⟨by rw [HS.out, Hg.out, Hh.out], (by with_reducible repeat (first | exact Ext.refl _ | assumption | apply Ext.drewN | apply Ext.drew | apply Ext.alloc | (refine Ext.setCell ?_ (by simp <;> omega) _) | (refine Ext.trans ?_ (by assumption))))⟩
def RunOk (f : FuncId) (cap : Array Value) (x y : Value) (v : Value) (w : World) : Prop :=
  ∀ w', Ext w w' → Calls Tryz.prog f (#[x, y] ++ cap) w' fun e w'' => e = .returned v ∧ Ext w' w''
abbrev fv (neg : Bool) (n d : Int) : Value := .agg #[.bool neg, .int .u64 n, .int .u64 d]
set_option maxHeartbeats 1000000 in
theorem checked_no (n d m c : Int) (h1 : -9223372036854775808 ≤ n) (h2 : n ≤ 9223372036854775807) (h4 : d ≤ 9223372036854775807) (h5 : -9223372036854775808 ≤ m) (h6 : m ≤ 9223372036854775807) (h8 : c ≤ 9223372036854775807) (f : FuncId) (cap : Array Value)
    (hr : (rightB n d && rightB m c) = false) (w : World) :
    Calls Tryz.prog 195 #[.agg #[.int .i64 n, .int .i64 d], .agg #[.int .i64 m, .int .i64 c], .func (.func f) #[] cap] w fun e w' => e = .returned (rbv ((0, 1), false)) ∧ Ext w w' := by
  have Hr := Lib.hid hr; clear hr
  go_enter Tryz.func195, Tryz.ntmps195
  go_wp2_with (first
    | (go_at_call 70; refine (both_any n d m c h1 h2 h4 h5 h6 h8 _).mono ?_; rintro e w1 ⟨rfl, hb⟩; rw [Hr.out]; obtain ⟨hc, hf⟩ := hb.cells; have hz := hb.size; simp at hz; have z0 : w.heap.size + 1 + 1 < w1.heap.size := (by omega))
    | (go_at_call 200; refine (zero_any _).mono ?_; rintro e w2 ⟨rfl, hb2⟩; obtain ⟨hc2, hf2⟩ := hb2.cells))
  exact bodyPost_ret (v := rbv ((0, 1), false)) (by simp [results, Tryz.results195, go_sem, hc, hc2, z0]) rfl ⟨rfl, (by with_reducible repeat (first | exact Ext.refl _ | assumption | apply Ext.drewN | apply Ext.drew | apply Ext.alloc | (refine Ext.setCell ?_ (by simp <;> omega) _) | (refine Ext.trans ?_ (by assumption))))⟩
set_option maxRecDepth 100000 in
set_option maxHeartbeats 1000000 in
theorem checked_yes (n d m c : Int) (h1 : -9223372036854775808 ≤ n) (h2 : n ≤ 9223372036854775807) (h3 : -9223372036854775808 ≤ d) (h4 : d ≤ 9223372036854775807) (h5 : -9223372036854775808 ≤ m) (h6 : m ≤ 9223372036854775807) (h7 : -9223372036854775808 ≤ c) (h8 : c ≤ 9223372036854775807) (f : FuncId) (cap : Array Value)
    (hr : (rightB n d && rightB m c) = true) (w : World) (p : (Int × Int) × Bool) (hF : RunOk f cap (fv (decide (n < 0)) (sizeZ n) (sizeZ d)) (fv (decide (m < 0)) (sizeZ m) (sizeZ c)) (rbv p) w) (hE : ∀ args w, (callFunc f args).run Tryz.prog w = .ok (.enter f args) w) :
    Calls Tryz.prog 195 #[.agg #[.int .i64 n, .int .i64 d], .agg #[.int .i64 m, .int .i64 c], .func (.func f) #[] cap] w fun e w' => e = .returned (rbv p) ∧ Ext w w' := by
  have Hr := Lib.hid hr; clear hr
  unfold RunOk at hF
  have HF := Lib.hid hF; clear hF
  have HO1 := Lib.hid (of_any n d h1 h2 h3 h4); have HO2 := Lib.hid (of_any m c h5 h6 h7 h8)
  go_enter Tryz.func195, Tryz.ntmps195
  go_wp2_with (go_at_call 70; refine (both_any n d m c h1 h2 h4 h5 h6 h8 _).mono ?_; rintro e w1 ⟨rfl, hb⟩; rw [Hr.out]; obtain ⟨hc, hf⟩ := hb.cells; have hz := hb.size; simp at hz; have z0 : w.heap.size + 1 + 1 < w1.heap.size := (by omega); have z1 : w.heap.size + 1 < w1.heap.size := (by omega); have z2 : w.heap.size < w1.heap.size := (by omega))
  have hww : Ext w w1 := Ext.trans ((((Ext.refl _).alloc _).alloc _).alloc _) hb
  refine Rg.wp_region 8 8 (fun _ => none) (fun _ _ => rfl) (by kernel_rfl) (by kernel_rfl) ?_
  simp only [List.take_succ_cons, List.take_zero, List.drop_succ_cons, List.drop_zero]
  repeat
    (refine Rg.wk_step (by rfl) ?_
     apply Exists.intro
     refine ⟨fun wz hw => ?_, ?_⟩
     · obtain ⟨hc, hf⟩ := hw.cells
       go_simp
       first
         | exact Rg.up_value
         | (apply Rg.up_enter; (with_reducible refine (HO1.out _).mono ?_); rintro e w1 ⟨rfl, hb1⟩; exact ⟨rfl, hb1⟩)
         | (apply Rg.up_enter; (with_reducible refine (HO2.out _).mono ?_); rintro e w1 ⟨rfl, hb1⟩; exact ⟨rfl, hb1⟩)
         | (apply Rg.up_enter; (with_reducible refine (HF.out _ (hww.trans hw)).mono ?_); rintro e w1 ⟨rfl, hb1⟩; exact ⟨rfl, hb1⟩)
     simp only [Act.put, List.setIfInBounds_toArray, List.set_cons_zero, List.set_cons_succ])
  refine Rg.wk_nil (Rg.fin0 rfl ?_)
  intro wx hx
  obtain ⟨hc2, hf2⟩ := hx.cells
  have y1 : w.heap.size + 1 + 1 < wx.heap.size := by have := hx.size; omega
  go_wp2
  exact bodyPost_ret (v := rbv p) (by simp [results, Tryz.results195, go_sem, hc, hc2, z0]) rfl ⟨rfl, (by with_reducible repeat (first | exact Ext.refl _ | assumption | apply Ext.drewN | apply Ext.drew | apply Ext.alloc | (refine Ext.setCell ?_ (by simp <;> omega) _) | (refine Ext.trans ?_ (by assumption))))⟩
theorem enters103 (args : Array Value) (w : World) : (callFunc 196 args).run Tryz.prog w = .ok (.enter 196 args) w := by go_simp
theorem enters104 (args : Array Value) (w : World) : (callFunc 197 args).run Tryz.prog w = .ok (.enter 197 args) w := by go_simp
theorem enters105 (args : Array Value) (w : World) : (callFunc 198 args).run Tryz.prog w = .ok (.enter 198 args) w := by go_simp
theorem enters106 (args : Array Value) (w : World) : (callFunc 199 args).run Tryz.prog w = .ok (.enter 199 args) w := by go_simp
end Go.Proofs.YteomcpplajeidaaGreat
namespace Go.Proofs.YteomcpplajeidaaGreat
set_option linter.unusedVariables false
set_option linter.unusedSimpArgs false
set_option maxRecDepth 100000
open Go.RowKit
structure I2 (a : Int × Int) : Prop where
  n1 : -9223372036854775808 ≤ a.1
  n2 : a.1 ≤ 9223372036854775807
  d1 : -9223372036854775808 ≤ a.2
  d2 : a.2 ≤ 9223372036854775807
def addI (a b : Int × Int) : (Int × Int) × Bool :=
  if (rightB a.1 a.2 && rightB b.1 b.2) = true then sumS (decide (a.1 < 0)) (sizeZ a.1) (sizeZ a.2) (decide (b.1 < 0)) (sizeZ b.1) (sizeZ b.2) else ((0, 1), false)
def subI (a b : Int × Int) : (Int × Int) × Bool :=
  if (rightB a.1 a.2 && rightB b.1 b.2) = true then sumS (decide (a.1 < 0)) (sizeZ a.1) (sizeZ a.2) (!decide (b.1 < 0)) (sizeZ b.1) (sizeZ b.2) else ((0, 1), false)
def mulI (a b : Int × Int) : (Int × Int) × Bool :=
  if (rightB a.1 a.2 && rightB b.1 b.2) = true then timesS (decide (a.1 < 0)) (sizeZ a.1) (sizeZ a.2) (decide (b.1 < 0)) (sizeZ b.1) (sizeZ b.2) else ((0, 1), false)
def quoI (a b : Int × Int) : (Int × Int) × Bool :=
  if (rightB a.1 a.2 && rightB b.1 b.2) = true then (if b.1 = 0 then ((0, 1), false) else timesS (decide (a.1 < 0)) (sizeZ a.1) (sizeZ a.2) (decide (b.1 < 0)) (sizeZ b.2) (sizeZ b.1)) else ((0, 1), false)
theorem right_pos {n d : Int} (h : rightB n d = true) : 1 ≤ d := by
  unfold rightB at h; simp at h; omega
theorem sizeZ_pos {d : Int} (h : 1 ≤ d) : sizeZ d = d := by unfold sizeZ; split <;> omega
theorem sizeZ_le {n : Int} (h1 : -9223372036854775808 ≤ n) (h2 : n ≤ 9223372036854775807) : 0 ≤ sizeZ n ∧ sizeZ n ≤ 9223372036854775808 := by unfold sizeZ; split <;> omega
theorem sumOk_of {a b : Int × Int} (ha : I2 a) (hb : I2 b) (hr : (rightB a.1 a.2 && rightB b.1 b.2) = true) : SumOk (sizeZ a.1) (sizeZ a.2) (sizeZ b.1) (sizeZ b.2) := by
  simp only [Bool.and_eq_true] at hr
  have h1 := right_pos hr.1; have h2 := right_pos hr.2
  rw [sizeZ_pos h1, sizeZ_pos h2]
  exact ⟨sizeZ_le ha.n1 ha.n2, sizeZ_le hb.n1 hb.n2, ⟨h1, ha.d2⟩, ⟨h2, hb.d2⟩⟩
theorem SumOk.times {n1 d1 n2 d2 : Int} (h : SumOk n1 d1 n2 d2) : TimesOk n1 d1 n2 d2 := ⟨h.n1, h.n2, ⟨h.d1.1, by have := h.d1.2; omega⟩, ⟨h.d2.1, by have := h.d2.2; omega⟩⟩
set_option maxRecDepth 100000 in
set_option maxHeartbeats 1000000 in
theorem sub1_walk (hD : Div64Said) (xn : Bool) (n1 d1 : Int) (yn : Bool) (n2 d2 : Int) (h : SumOk n1 d1 n2 d2) (w : World) :
    Calls Tryz.prog 197 #[fv xn n1 d1, fv yn n2 d2] w fun e w' => e = .returned (rbv (sumS xn n1 d1 (!yn) n2 d2)) ∧ Ext w w' := by
  have HS := Lib.hid (sum_walk hD xn n1 d1 (!yn) n2 d2 h)
  go_enter Tryz.func197, Tryz.ntmps197
  go_wp2_with (go_at_call 196; (with_reducible refine (HS.out _).mono ?_); rintro e w1 ⟨rfl, hb⟩; obtain ⟨hc, hf⟩ := hb.cells)
  exact bodyPost_ret (v := rbv (sumS xn n1 d1 (!yn) n2 d2)) (by simp [results, Tryz.results197, go_sem, hc]) rfl ⟨rfl, (by with_reducible repeat (first | exact Ext.refl _ | assumption | apply Ext.drewN | apply Ext.drew | apply Ext.alloc | (refine Ext.setCell ?_ (by simp <;> omega) _) | (refine Ext.trans ?_ (by assumption))))⟩
set_option maxRecDepth 100000 in
set_option maxHeartbeats 1000000 in
theorem quo1_zero (x y : Value) (w : World) (p : Nat) (hp : w.cell? ⟨p, 0, none⟩ = some (.int .i64 0)) (xn : Bool) (n1 d1 : Int) (yn : Bool) (n2 d2 : Int) (hx : x = fv xn n1 d1) (hy : y = fv yn n2 d2) :
    Calls Tryz.prog 199 #[x, y, .pointer (some ⟨p, 0, none⟩)] w fun e w' => e = .returned (rbv ((0, 1), false)) ∧ Ext w w' := by
  subst hx hy
  have hpl : p < w.heap.size := World.block_lt_of_cell? w _ hp
  have hpl1 : p < w.heap.size + 1 := by omega
  have hpl2 : p < w.heap.size + 1 + 1 := by omega
  go_enter Tryz.func199, Tryz.ntmps199
  go_wp2_with (go_at_call 200; refine (zero_any _).mono ?_; rintro e w1 ⟨rfl, hb⟩; obtain ⟨hc, hf⟩ := hb.cells)
  exact bodyPost_ret (v := rbv ((0, 1), false)) (by simp [results, Tryz.results199, go_sem, hc]) rfl ⟨rfl, (by with_reducible repeat (first | exact Ext.refl _ | assumption | apply Ext.drewN | apply Ext.drew | apply Ext.alloc | (refine Ext.setCell ?_ (by simp <;> omega) _) | (refine Ext.trans ?_ (by assumption))))⟩
set_option maxRecDepth 100000 in
set_option maxHeartbeats 1000000 in
theorem quo1_walk (w : World) (p : Nat) (b : Int) (hp : w.cell? ⟨p, 0, none⟩ = some (.int .i64 b)) (hb0 : ¬ b = 0) (xn : Bool) (n1 d1 : Int) (yn : Bool) (n2 d2 : Int) (h : TimesOk n1 d1 d2 n2) :
    Calls Tryz.prog 199 #[fv xn n1 d1, fv yn n2 d2, .pointer (some ⟨p, 0, none⟩)] w fun e w' => e = .returned (rbv (timesS xn n1 d1 yn d2 n2)) ∧ Ext w w' := by
  have HT := Lib.hid (times_walk xn n1 d1 yn d2 n2 h)
  have hpl : p < w.heap.size := World.block_lt_of_cell? w _ hp
  have hpl1 : p < w.heap.size + 1 := by omega
  have hpl2 : p < w.heap.size + 1 + 1 := by omega
  go_enter Tryz.func199, Tryz.ntmps199
  go_wp2_with (go_at_call 198; (with_reducible refine (HT.out _).mono ?_); rintro e w1 ⟨rfl, hb⟩; obtain ⟨hc, hf⟩ := hb.cells)
  exact bodyPost_ret (v := rbv (timesS xn n1 d1 yn d2 n2)) (by simp [results, Tryz.results199, go_sem, hc]) rfl ⟨rfl, (by with_reducible repeat (first | exact Ext.refl _ | assumption | apply Ext.drewN | apply Ext.drew | apply Ext.alloc | (refine Ext.setCell ?_ (by simp <;> omega) _) | (refine Ext.trans ?_ (by assumption))))⟩
theorem checked_any (a b : Int × Int) (ha : I2 a) (hb : I2 b) (f : FuncId) (cap : Array Value) (w : World) (p : (Int × Int) × Bool)
    (hF : (rightB a.1 a.2 && rightB b.1 b.2) = true → RunOk f cap (fv (decide (a.1 < 0)) (sizeZ a.1) (sizeZ a.2)) (fv (decide (b.1 < 0)) (sizeZ b.1) (sizeZ b.2)) (rbv p) w)
    (hN : (rightB a.1 a.2 && rightB b.1 b.2) = false → p = ((0, 1), false)) (hE : ∀ args w, (callFunc f args).run Tryz.prog w = .ok (.enter f args) w) :
    Calls Tryz.prog 195 #[rv a, rv b, .func (.func f) #[] cap] w fun e w' => e = .returned (rbv p) ∧ Ext w w' := by
  cases hr : (rightB a.1 a.2 && rightB b.1 b.2)
  · rw [hN hr]
    exact checked_no a.1 a.2 b.1 b.2 ha.n1 ha.n2 ha.d2 hb.n1 hb.n2 hb.d2 f cap hr w
  · exact checked_yes a.1 a.2 b.1 b.2 ha.n1 ha.n2 ha.d1 ha.d2 hb.n1 hb.n2 hb.d1 hb.d2 f cap hr w p (hF hr) hE
set_option maxRecDepth 100000 in
set_option maxHeartbeats 1000000 in
theorem Add_any (hD : Div64Said) (a b : Int × Int) (ha : I2 a) (hb : I2 b) (w : World) :
    Calls Tryz.prog 168 #[rv a, rv b] w fun e w' => e = .returned (rbv (addI a b)) ∧ Ext w w' := by
  have HC := Lib.hid (fun w => checked_any a b ha hb 196 #[] w (addI a b) (fun hr w' _ => by rw [show addI a b = _ from if_pos hr]; exact sum_walk hD _ _ _ _ _ _ (sumOk_of ha hb hr) w') (fun hr => if_neg (by simp [hr])) enters103)
  obtain ⟨a1, a2⟩ := a; obtain ⟨b1, b2⟩ := b
  go_enter Tryz.func168, Tryz.ntmps168
  go_wp2_with (go_at_call 195; (with_reducible refine (HC.out _).mono ?_); rintro e w1 ⟨rfl, hb⟩; obtain ⟨hc, hf⟩ := hb.cells)
  exact bodyPost_ret (v := rbv (addI (a1, a2) (b1, b2))) (by simp [results, Tryz.results168, go_sem, hc]) rfl ⟨rfl, (by with_reducible repeat (first | exact Ext.refl _ | assumption | apply Ext.drewN | apply Ext.drew | apply Ext.alloc | (refine Ext.setCell ?_ (by simp <;> omega) _) | (refine Ext.trans ?_ (by assumption))))⟩
set_option maxRecDepth 100000 in
set_option maxHeartbeats 1000000 in
theorem Sub_any (hD : Div64Said) (a b : Int × Int) (ha : I2 a) (hb : I2 b) (w : World) :
    Calls Tryz.prog 169 #[rv a, rv b] w fun e w' => e = .returned (rbv (subI a b)) ∧ Ext w w' := by
  have HC := Lib.hid (fun w => checked_any a b ha hb 197 #[] w (subI a b) (fun hr w' _ => by rw [show subI a b = _ from if_pos hr]; exact sub1_walk hD _ _ _ _ _ _ (sumOk_of ha hb hr) w') (fun hr => if_neg (by simp [hr])) enters104)
  obtain ⟨a1, a2⟩ := a; obtain ⟨b1, b2⟩ := b
  go_enter Tryz.func169, Tryz.ntmps169
  go_wp2_with (go_at_call 195; (with_reducible refine (HC.out _).mono ?_); rintro e w1 ⟨rfl, hb⟩; obtain ⟨hc, hf⟩ := hb.cells)
  exact bodyPost_ret (v := rbv (subI (a1, a2) (b1, b2))) (by simp [results, Tryz.results169, go_sem, hc]) rfl ⟨rfl, (by with_reducible repeat (first | exact Ext.refl _ | assumption | apply Ext.drewN | apply Ext.drew | apply Ext.alloc | (refine Ext.setCell ?_ (by simp <;> omega) _) | (refine Ext.trans ?_ (by assumption))))⟩
set_option maxRecDepth 100000 in
set_option maxHeartbeats 1000000 in
theorem Mul_any (a b : Int × Int) (ha : I2 a) (hb : I2 b) (w : World) :
    Calls Tryz.prog 170 #[rv a, rv b] w fun e w' => e = .returned (rbv (mulI a b)) ∧ Ext w w' := by
  have HC := Lib.hid (fun w => checked_any a b ha hb 198 #[] w (mulI a b) (fun hr w' _ => by rw [show mulI a b = _ from if_pos hr]; exact times_walk _ _ _ _ _ _ (sumOk_of ha hb hr).times w') (fun hr => if_neg (by simp [hr])) enters105)
  obtain ⟨a1, a2⟩ := a; obtain ⟨b1, b2⟩ := b
  go_enter Tryz.func170, Tryz.ntmps170
  go_wp2_with (go_at_call 195; (with_reducible refine (HC.out _).mono ?_); rintro e w1 ⟨rfl, hb⟩; obtain ⟨hc, hf⟩ := hb.cells)
  exact bodyPost_ret (v := rbv (mulI (a1, a2) (b1, b2))) (by simp [results, Tryz.results170, go_sem, hc]) rfl ⟨rfl, (by with_reducible repeat (first | exact Ext.refl _ | assumption | apply Ext.drewN | apply Ext.drew | apply Ext.alloc | (refine Ext.setCell ?_ (by simp <;> omega) _) | (refine Ext.trans ?_ (by assumption))))⟩
theorem quo_run (a b : Int × Int) (ha : I2 a) (hb : I2 b) (hr : (rightB a.1 a.2 && rightB b.1 b.2) = true) (w : World) (p : Nat) (hp : w.cell? ⟨p, 0, none⟩ = some (.int .i64 b.1)) :
    RunOk 199 #[.pointer (some ⟨p, 0, none⟩)] (fv (decide (a.1 < 0)) (sizeZ a.1) (sizeZ a.2)) (fv (decide (b.1 < 0)) (sizeZ b.1) (sizeZ b.2)) (rbv (quoI a b)) w := by
  intro w' hw
  have hpl : p < w.heap.size := World.block_lt_of_cell? w _ hp
  have hpl1 : p < w.heap.size + 1 := by omega
  have hpl2 : p < w.heap.size + 1 + 1 := by omega
  have hp' : w'.cell? ⟨p, 0, none⟩ = some (.int .i64 b.1) := (hw.cells.1 p 0 hpl).trans hp
  rw [show quoI a b = _ from if_pos hr]
  by_cases h0 : b.1 = 0
  · rw [if_pos h0]
    rw [h0] at hp'
    exact quo1_zero _ _ w' p hp' _ _ _ _ _ _ rfl rfl
  · rw [if_neg h0]
    have h := sumOk_of ha hb hr
    have hz : 1 ≤ sizeZ b.1 := by unfold sizeZ; split <;> omega
    exact quo1_walk w' p b.1 hp' h0 _ _ _ _ _ _ ⟨h.n1, ⟨by have := h.d2.1; omega, by have := h.d2.2; omega⟩, ⟨h.d1.1, by have := h.d1.2; omega⟩, ⟨hz, h.n2.2⟩⟩
set_option maxRecDepth 100000 in
set_option maxHeartbeats 1000000 in
theorem Quo_any (a b : Int × Int) (ha : I2 a) (hb : I2 b) (w : World) :
    Calls Tryz.prog 171 #[rv a, rv b] w fun e w' => e = .returned (rbv (quoI a b)) ∧ Ext w w' := by
  have HC := Lib.hid (fun w p (hp : w.cell? ⟨p, 0, none⟩ = some (.int .i64 b.1)) => checked_any a b ha hb 199 #[.pointer (some ⟨p, 0, none⟩)] w (quoI a b) (fun hr => quo_run a b ha hb hr w p hp) (fun hr => if_neg (by simp [hr])) enters106)
  obtain ⟨a1, a2⟩ := a; obtain ⟨b1, b2⟩ := b
  have hmf : ∀ (fn : Fn) (first cap : Array Value) (w : World), (Instr.makeFunc fn first cap).run Tryz.prog w = .ok (.func fn first cap) w := fun _ _ _ _ => rfl
  go_enter Tryz.func171, Tryz.ntmps171
  go_wp2_with (go_at_call 195; (with_reducible refine (HC.out _ _ ?_).mono ?_); (go_simp); rintro e w1 ⟨rfl, hb⟩; obtain ⟨hc, hf⟩ := hb.cells)
  exact bodyPost_ret (v := rbv (quoI (a1, a2) (b1, b2))) (by simp [results, Tryz.results171, go_sem, hc]) rfl ⟨rfl, (by with_reducible repeat (first | exact Ext.refl _ | assumption | apply Ext.drewN | apply Ext.drew | apply Ext.alloc | (refine Ext.setCell ?_ (by simp <;> omega) _) | (refine Ext.trans ?_ (by assumption))))⟩
end Go.Proofs.YteomcpplajeidaaGreat
