/-
  Package ratio's exported functions: Add, Sub, Mul, Quo, Cmp, by what their bodies compute. Conditions: the ranges of the numbers.
-/
import Derived.Test.YtgkdeknfmmgbdaaRatD
namespace Go.Proofs.Ytgkdeknfmmgbdaa
set_option linter.unusedVariables false
set_option linter.unusedSimpArgs false
open Go.RowKit

/-- Both fields of a number of package api are ints. -/
structure I2 (a : Int × Int) : Prop where
  n1 : -9223372036854775808 ≤ a.1
  n2 : a.1 ≤ 9223372036854775807
  d1 : -9223372036854775808 ≤ a.2
  d2 : a.2 ≤ 9223372036854775807
abbrev rightP (a : Int × Int) : Bool := rightB a.1 a.2
def addI (a b : Int × Int) : (Int × Int) × Bool :=
  if (rightB a.1 a.2 && rightB b.1 b.2) = true then sumS (decide (a.1 < 0)) (sizeZ a.1) (sizeZ a.2) (decide (b.1 < 0)) (sizeZ b.1) (sizeZ b.2) else ((0, 1), false)
def subI (a b : Int × Int) : (Int × Int) × Bool :=
  if (rightB a.1 a.2 && rightB b.1 b.2) = true then sumS (decide (a.1 < 0)) (sizeZ a.1) (sizeZ a.2) (!decide (b.1 < 0)) (sizeZ b.1) (sizeZ b.2) else ((0, 1), false)
def mulI (a b : Int × Int) : (Int × Int) × Bool :=
  if (rightB a.1 a.2 && rightB b.1 b.2) = true then timesS (decide (a.1 < 0)) (sizeZ a.1) (sizeZ a.2) (decide (b.1 < 0)) (sizeZ b.1) (sizeZ b.2) else ((0, 1), false)
def quoI (a b : Int × Int) : (Int × Int) × Bool :=
  if (rightB a.1 a.2 && rightB b.1 b.2) = true then (if b.1 = 0 then ((0, 1), false) else timesS (decide (a.1 < 0)) (sizeZ a.1) (sizeZ a.2) (decide (b.1 < 0)) (sizeZ b.2) (sizeZ b.1)) else ((0, 1), false)

theorem right_pos {n d : Int} (h : rightB n d = true) : 1 ≤ d := by
  unfold rightB at h; simp at h; omega
theorem sizeZ_pos {d : Int} (h : 1 ≤ d) : sizeZ d = d := by unfold sizeZ; split <;> omega
theorem sizeZ_le {n : Int} (h1 : -9223372036854775808 ≤ n) (h2 : n ≤ 9223372036854775807) : 0 ≤ sizeZ n ∧ sizeZ n ≤ 9223372036854775808 := by unfold sizeZ; split <;> omega
theorem sumOk_of {a b : Int × Int} (ha : I2 a) (hb : I2 b) (hr : (rightB a.1 a.2 && rightB b.1 b.2) = true) : SumOk (sizeZ a.1) (sizeZ a.2) (sizeZ b.1) (sizeZ b.2) := by
  simp only [Bool.and_eq_true] at hr
  have h1 := right_pos hr.1; have h2 := right_pos hr.2
  rw [sizeZ_pos h1, sizeZ_pos h2]
  exact ⟨sizeZ_le ha.n1 ha.n2, sizeZ_le hb.n1 hb.n2, ⟨h1, ha.d2⟩, ⟨h2, hb.d2⟩⟩
theorem SumOk.times {n1 d1 n2 d2 : Int} (h : SumOk n1 d1 n2 d2) : TimesOk n1 d1 n2 d2 := ⟨h.n1, h.n2, ⟨h.d1.1, by have := h.d1.2; omega⟩, ⟨h.d2.1, by have := h.d2.2; omega⟩⟩

set_option maxRecDepth 100000 in
set_option maxHeartbeats 1000000 in
theorem sub1_walk (hD : Div64Said) (xn : Bool) (n1 d1 : Int) (yn : Bool) (n2 d2 : Int) (h : SumOk n1 d1 n2 d2) (w : World) :
    Calls Try.prog 104 #[fv xn n1 d1, fv yn n2 d2] w fun e w' => e = .returned (rbv (sumS xn n1 d1 (!yn) n2 d2)) ∧ Ext w w' := by
  have HS := Lib.hid (sum_walk hD xn n1 d1 (!yn) n2 d2 h)
  go_enter Try.func104, Try.ntmps104
  go_wp2_with (go_at_call 103; (with_reducible refine (HS.out _).mono ?_); rintro e w1 ⟨rfl, hb⟩; obtain ⟨hc, hf⟩ := hb.cells)
  exact bodyPost_ret (v := rbv (sumS xn n1 d1 (!yn) n2 d2)) (by simp [results, Try.results104, go_sem, hc]) rfl ⟨rfl, (by with_reducible repeat (first | exact Ext.refl _ | assumption | apply Ext.drewN | apply Ext.drew | apply Ext.alloc | (refine Ext.setCell ?_ (by simp <;> omega) _) | (refine Ext.trans ?_ (by assumption))))⟩

set_option maxRecDepth 100000 in
set_option maxHeartbeats 1000000 in
theorem quo1_zero (x y : Value) (w : World) (p : Nat) (hp : w.cell? ⟨p, 0, none⟩ = some (.int .i64 0)) (xn : Bool) (n1 d1 : Int) (yn : Bool) (n2 d2 : Int) (hx : x = fv xn n1 d1) (hy : y = fv yn n2 d2) :
    Calls Try.prog 106 #[x, y, .pointer (some ⟨p, 0, none⟩)] w fun e w' => e = .returned (rbv ((0, 1), false)) ∧ Ext w w' := by
  subst hx hy
  have hpl : p < w.heap.size := World.block_lt_of_cell? w _ hp
  have hpl1 : p < w.heap.size + 1 := by omega
  have hpl2 : p < w.heap.size + 1 + 1 := by omega
  go_enter Try.func106, Try.ntmps106
  go_wp2_with (go_at_call 107; refine (zero_any _).mono ?_; rintro e w1 ⟨rfl, hb⟩; obtain ⟨hc, hf⟩ := hb.cells)
  exact bodyPost_ret (v := rbv ((0, 1), false)) (by simp [results, Try.results106, go_sem, hc]) rfl ⟨rfl, (by with_reducible repeat (first | exact Ext.refl _ | assumption | apply Ext.drewN | apply Ext.drew | apply Ext.alloc | (refine Ext.setCell ?_ (by simp <;> omega) _) | (refine Ext.trans ?_ (by assumption))))⟩

set_option maxRecDepth 100000 in
set_option maxHeartbeats 1000000 in
theorem quo1_walk (w : World) (p : Nat) (b : Int) (hp : w.cell? ⟨p, 0, none⟩ = some (.int .i64 b)) (hb0 : ¬ b = 0) (xn : Bool) (n1 d1 : Int) (yn : Bool) (n2 d2 : Int) (h : TimesOk n1 d1 d2 n2) :
    Calls Try.prog 106 #[fv xn n1 d1, fv yn n2 d2, .pointer (some ⟨p, 0, none⟩)] w fun e w' => e = .returned (rbv (timesS xn n1 d1 yn d2 n2)) ∧ Ext w w' := by
  have HT := Lib.hid (times_walk xn n1 d1 yn d2 n2 h)
  have hpl : p < w.heap.size := World.block_lt_of_cell? w _ hp
  have hpl1 : p < w.heap.size + 1 := by omega
  have hpl2 : p < w.heap.size + 1 + 1 := by omega
  go_enter Try.func106, Try.ntmps106
  go_wp2_with (go_at_call 105; (with_reducible refine (HT.out _).mono ?_); rintro e w1 ⟨rfl, hb⟩; obtain ⟨hc, hf⟩ := hb.cells)
  exact bodyPost_ret (v := rbv (timesS xn n1 d1 yn d2 n2)) (by simp [results, Try.results106, go_sem, hc]) rfl ⟨rfl, (by with_reducible repeat (first | exact Ext.refl _ | assumption | apply Ext.drewN | apply Ext.drew | apply Ext.alloc | (refine Ext.setCell ?_ (by simp <;> omega) _) | (refine Ext.trans ?_ (by assumption))))⟩

/-- 'checked', the two ways in one. -/
theorem checked_any (a b : Int × Int) (ha : I2 a) (hb : I2 b) (f : FuncId) (cap : Array Value) (w : World) (p : (Int × Int) × Bool)
    (hF : (rightB a.1 a.2 && rightB b.1 b.2) = true → RunOk f cap (fv (decide (a.1 < 0)) (sizeZ a.1) (sizeZ a.2)) (fv (decide (b.1 < 0)) (sizeZ b.1) (sizeZ b.2)) (rbv p) w)
    (hN : (rightB a.1 a.2 && rightB b.1 b.2) = false → p = ((0, 1), false)) (hE : ∀ args w, (callFunc f args).run Try.prog w = .ok (.enter f args) w) :
    Calls Try.prog 102 #[rv a, rv b, .func (.func f) #[] cap] w fun e w' => e = .returned (rbv p) ∧ Ext w w' := by
  cases hr : (rightB a.1 a.2 && rightB b.1 b.2)
  · rw [hN hr]
    exact checked_no a.1 a.2 b.1 b.2 ha.n1 ha.n2 ha.d2 hb.n1 hb.n2 hb.d2 f cap hr w
  · exact checked_yes a.1 a.2 b.1 b.2 ha.n1 ha.n2 ha.d1 ha.d2 hb.n1 hb.n2 hb.d1 hb.d2 f cap hr w p (hF hr) hE

set_option maxRecDepth 100000 in
set_option maxHeartbeats 1000000 in
theorem Add_any (hD : Div64Said) (a b : Int × Int) (ha : I2 a) (hb : I2 b) (w : World) :
    Calls Try.prog 88 #[rv a, rv b] w fun e w' => e = .returned (rbv (addI a b)) ∧ Ext w w' := by
  have HC := Lib.hid (fun w => checked_any a b ha hb 103 #[] w (addI a b) (fun hr w' _ => by rw [show addI a b = _ from if_pos hr]; exact sum_walk hD _ _ _ _ _ _ (sumOk_of ha hb hr) w') (fun hr => if_neg (by simp [hr])) enters103)
  obtain ⟨a1, a2⟩ := a; obtain ⟨b1, b2⟩ := b
  go_enter Try.func88, Try.ntmps88
  go_wp2_with (go_at_call 102; (with_reducible refine (HC.out _).mono ?_); rintro e w1 ⟨rfl, hb⟩; obtain ⟨hc, hf⟩ := hb.cells)
  exact bodyPost_ret (v := rbv (addI (a1, a2) (b1, b2))) (by simp [results, Try.results88, go_sem, hc]) rfl ⟨rfl, (by with_reducible repeat (first | exact Ext.refl _ | assumption | apply Ext.drewN | apply Ext.drew | apply Ext.alloc | (refine Ext.setCell ?_ (by simp <;> omega) _) | (refine Ext.trans ?_ (by assumption))))⟩

set_option maxRecDepth 100000 in
set_option maxHeartbeats 1000000 in
theorem Sub_any (hD : Div64Said) (a b : Int × Int) (ha : I2 a) (hb : I2 b) (w : World) :
    Calls Try.prog 89 #[rv a, rv b] w fun e w' => e = .returned (rbv (subI a b)) ∧ Ext w w' := by
  have HC := Lib.hid (fun w => checked_any a b ha hb 104 #[] w (subI a b) (fun hr w' _ => by rw [show subI a b = _ from if_pos hr]; exact sub1_walk hD _ _ _ _ _ _ (sumOk_of ha hb hr) w') (fun hr => if_neg (by simp [hr])) enters104)
  obtain ⟨a1, a2⟩ := a; obtain ⟨b1, b2⟩ := b
  go_enter Try.func89, Try.ntmps89
  go_wp2_with (go_at_call 102; (with_reducible refine (HC.out _).mono ?_); rintro e w1 ⟨rfl, hb⟩; obtain ⟨hc, hf⟩ := hb.cells)
  exact bodyPost_ret (v := rbv (subI (a1, a2) (b1, b2))) (by simp [results, Try.results89, go_sem, hc]) rfl ⟨rfl, (by with_reducible repeat (first | exact Ext.refl _ | assumption | apply Ext.drewN | apply Ext.drew | apply Ext.alloc | (refine Ext.setCell ?_ (by simp <;> omega) _) | (refine Ext.trans ?_ (by assumption))))⟩

set_option maxRecDepth 100000 in
set_option maxHeartbeats 1000000 in
theorem Mul_any (a b : Int × Int) (ha : I2 a) (hb : I2 b) (w : World) :
    Calls Try.prog 90 #[rv a, rv b] w fun e w' => e = .returned (rbv (mulI a b)) ∧ Ext w w' := by
  have HC := Lib.hid (fun w => checked_any a b ha hb 105 #[] w (mulI a b) (fun hr w' _ => by rw [show mulI a b = _ from if_pos hr]; exact times_walk _ _ _ _ _ _ (sumOk_of ha hb hr).times w') (fun hr => if_neg (by simp [hr])) enters105)
  obtain ⟨a1, a2⟩ := a; obtain ⟨b1, b2⟩ := b
  go_enter Try.func90, Try.ntmps90
  go_wp2_with (go_at_call 102; (with_reducible refine (HC.out _).mono ?_); rintro e w1 ⟨rfl, hb⟩; obtain ⟨hc, hf⟩ := hb.cells)
  exact bodyPost_ret (v := rbv (mulI (a1, a2) (b1, b2))) (by simp [results, Try.results90, go_sem, hc]) rfl ⟨rfl, (by with_reducible repeat (first | exact Ext.refl _ | assumption | apply Ext.drewN | apply Ext.drew | apply Ext.alloc | (refine Ext.setCell ?_ (by simp <;> omega) _) | (refine Ext.trans ?_ (by assumption))))⟩

theorem quo_run (a b : Int × Int) (ha : I2 a) (hb : I2 b) (hr : (rightB a.1 a.2 && rightB b.1 b.2) = true) (w : World) (p : Nat) (hp : w.cell? ⟨p, 0, none⟩ = some (.int .i64 b.1)) :
    RunOk 106 #[.pointer (some ⟨p, 0, none⟩)] (fv (decide (a.1 < 0)) (sizeZ a.1) (sizeZ a.2)) (fv (decide (b.1 < 0)) (sizeZ b.1) (sizeZ b.2)) (rbv (quoI a b)) w := by
  intro w' hw
  have hpl : p < w.heap.size := World.block_lt_of_cell? w _ hp
  have hpl1 : p < w.heap.size + 1 := by omega
  have hpl2 : p < w.heap.size + 1 + 1 := by omega
  have hp' : w'.cell? ⟨p, 0, none⟩ = some (.int .i64 b.1) := (hw.cells.1 p 0 hpl).trans hp
  rw [show quoI a b = _ from if_pos hr]
  by_cases h0 : b.1 = 0
  · rw [if_pos h0]
    rw [h0] at hp'
    exact quo1_zero _ _ w' p hp' _ _ _ _ _ _ rfl rfl
  · rw [if_neg h0]
    have h := sumOk_of ha hb hr
    have hz : 1 ≤ sizeZ b.1 := by unfold sizeZ; split <;> omega
    exact quo1_walk w' p b.1 hp' h0 _ _ _ _ _ _ ⟨h.n1, ⟨by have := h.d2.1; omega, by have := h.d2.2; omega⟩, ⟨h.d1.1, by have := h.d1.2; omega⟩, ⟨hz, h.n2.2⟩⟩

set_option maxRecDepth 100000 in
set_option maxHeartbeats 1000000 in
theorem Quo_any (a b : Int × Int) (ha : I2 a) (hb : I2 b) (w : World) :
    Calls Try.prog 91 #[rv a, rv b] w fun e w' => e = .returned (rbv (quoI a b)) ∧ Ext w w' := by
  have HC := Lib.hid (fun w p (hp : w.cell? ⟨p, 0, none⟩ = some (.int .i64 b.1)) => checked_any a b ha hb 106 #[.pointer (some ⟨p, 0, none⟩)] w (quoI a b) (fun hr => quo_run a b ha hb hr w p hp) (fun hr => if_neg (by simp [hr])) enters106)
  obtain ⟨a1, a2⟩ := a; obtain ⟨b1, b2⟩ := b
  have hmf : ∀ (fn : Fn) (first cap : Array Value) (w : World), (Instr.makeFunc fn first cap).run Try.prog w = .ok (.func fn first cap) w := fun _ _ _ _ => rfl
  go_enter Try.func91, Try.ntmps91
  go_wp2_with (go_at_call 102; (with_reducible refine (HC.out _ _ ?_).mono ?_); (go_simp); rintro e w1 ⟨rfl, hb⟩; obtain ⟨hc, hf⟩ := hb.cells)
  exact bodyPost_ret (v := rbv (quoI (a1, a2) (b1, b2))) (by simp [results, Try.results91, go_sem, hc]) rfl ⟨rfl, (by with_reducible repeat (first | exact Ext.refl _ | assumption | apply Ext.drewN | apply Ext.drew | apply Ext.alloc | (refine Ext.setCell ?_ (by simp <;> omega) _) | (refine Ext.trans ?_ (by assumption))))⟩

end Go.Proofs.Ytgkdeknfmmgbdaa
