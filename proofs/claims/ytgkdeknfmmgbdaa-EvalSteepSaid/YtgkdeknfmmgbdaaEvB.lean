/-
  Package eval: pick, the operations min and max, apply. Conditions: the ranges of the numbers; Div64Said.
-/
import Derived.Test.YtgkdeknfmmgbdaaEvA
import Derived.Test.YtgkdeknfmmgbdaaRgr
namespace Go.Proofs.Ytgkdeknfmmgbdaa
set_option linter.unusedVariables false
set_option linter.unusedSimpArgs false
open Go.RowKit

theorem pick_any (f : Bool) (a b : Int × Int) (w : World) : Calls Try.prog 93 #[.bool f, rv a, rv b] w fun e w' => e = .returned (rv (if f then a else b)) ∧ Ext w w' := by
  obtain ⟨a1, a2⟩ := a; obtain ⟨b1, b2⟩ := b
  cases f
  · go_enter Try.func93, Try.ntmps93
    go_wp2
    exact bodyPost_ret (v := rv (b1, b2)) (by simp [results, Try.results93, go_sem]) rfl ⟨rfl, (by with_reducible repeat (first | exact Ext.refl _ | assumption | apply Ext.drewN | apply Ext.drew | apply Ext.alloc | (refine Ext.setCell ?_ (by simp <;> omega) _) | (refine Ext.trans ?_ (by assumption))))⟩
  · go_enter Try.func93, Try.ntmps93
    go_wp2
    exact bodyPost_ret (v := rv (a1, a2)) (by simp [results, Try.results93, go_sem]) rfl ⟨rfl, (by with_reducible repeat (first | exact Ext.refl _ | assumption | apply Ext.drewN | apply Ext.drew | apply Ext.alloc | (refine Ext.setCell ?_ (by simp <;> omega) _) | (refine Ext.trans ?_ (by assumption))))⟩

def minI (a b : Int × Int) : (Int × Int) × Bool := (if decide (cmpI a b ≤ 0) then a else b, true)
def maxI (a b : Int × Int) : (Int × Int) × Bool := (if decide (0 ≤ cmpI a b) then a else b, true)

set_option maxRecDepth 100000 in
set_option maxHeartbeats 2000000 in
theorem min_any (a b : Int × Int) (ha : I2 a) (hb : I2 b) (w : World) :
    Calls Try.prog 92 #[rv a, rv b] w fun e w' => e = .returned (rbv (minI a b)) ∧ Ext w w' := by
  have HC := Lib.hid (fun w => Cmp_any a b ha hb w)
  obtain ⟨a1, a2⟩ := a; obtain ⟨b1, b2⟩ := b
  have HP : ∃ r : Int × Int, (∀ w, Calls Try.prog 93 #[.bool (decide (cmpI (a1, a2) (b1, b2) ≤ 0)), rv (a1, a2), rv (b1, b2)] w fun e w' => e = .returned (rv r) ∧ Ext w w') ∧ minI (a1, a2) (b1, b2) = (r, true) := ⟨_, fun w => pick_any _ _ _ w, rfl⟩
  obtain ⟨⟨r1, r2⟩, hp, hm⟩ := HP
  rw [hm]
  have HP := Lib.hid hp
  clear hp hm
  go_enter Try.func92, Try.ntmps92
  go_wp2_with (fail)
  refine Rg.wp_region 7 7 (fun _ => none) (fun _ _ => rfl) (by kernel_rfl) (by kernel_rfl) ?_
  simp only [List.take_succ_cons, List.take_zero, List.drop_succ_cons, List.drop_zero]
  repeat
    (refine Rg.wk_step (by rfl) ?_
     apply Exists.intro
     refine ⟨fun wz hw => ?_, ?_⟩
     · obtain ⟨hc, hf⟩ := hw.cells
       go_simp
       first
         | exact Rg.up_value
         | (apply Rg.up_enter; (with_reducible refine (HC.out _).mono ?_); rintro e w1 ⟨rfl, hb1⟩; exact ⟨rfl, hb1⟩)
         | (apply Rg.up_enter; (with_reducible refine (HP.out _).mono ?_); rintro e w1 ⟨rfl, hb1⟩; exact ⟨rfl, hb1⟩)
     simp only [Act.put, List.setIfInBounds_toArray, List.set_cons_zero, List.set_cons_succ])
  refine Rg.wk_nil (Rg.fin0 rfl ?_)
  intro wy hy
  obtain ⟨hcy, hfy⟩ := hy.cells
  go_wp2
  exact bodyPost_ret (v := rbv ((r1, r2), true)) (by simp [results, Try.results92, go_sem, hcy]) rfl ⟨rfl, (by with_reducible repeat (first | exact Ext.refl _ | assumption | apply Ext.drewN | apply Ext.drew | apply Ext.alloc | (refine Ext.setCell ?_ (by simp <;> omega) _) | (refine Ext.trans ?_ (by assumption))))⟩

set_option maxRecDepth 100000 in
set_option maxHeartbeats 2000000 in
theorem max_any (a b : Int × Int) (ha : I2 a) (hb : I2 b) (w : World) :
    Calls Try.prog 95 #[rv a, rv b] w fun e w' => e = .returned (rbv (maxI a b)) ∧ Ext w w' := by
  have HC := Lib.hid (fun w => Cmp_any a b ha hb w)
  obtain ⟨a1, a2⟩ := a; obtain ⟨b1, b2⟩ := b
  have HP : ∃ r : Int × Int, (∀ w, Calls Try.prog 93 #[.bool (decide (0 ≤ cmpI (a1, a2) (b1, b2))), rv (a1, a2), rv (b1, b2)] w fun e w' => e = .returned (rv r) ∧ Ext w w') ∧ maxI (a1, a2) (b1, b2) = (r, true) := ⟨_, fun w => pick_any _ _ _ w, rfl⟩
  obtain ⟨⟨r1, r2⟩, hp, hm⟩ := HP
  rw [hm]
  have HP := Lib.hid hp
  clear hp hm
  go_enter Try.func95, Try.ntmps95
  go_wp2_with (fail)
  refine Rg.wp_region 7 7 (fun _ => none) (fun _ _ => rfl) (by kernel_rfl) (by kernel_rfl) ?_
  simp only [List.take_succ_cons, List.take_zero, List.drop_succ_cons, List.drop_zero]
  repeat
    (refine Rg.wk_step (by rfl) ?_
     apply Exists.intro
     refine ⟨fun wz hw => ?_, ?_⟩
     · obtain ⟨hc, hf⟩ := hw.cells
       go_simp
       first
         | exact Rg.up_value
         | (apply Rg.up_enter; (with_reducible refine (HC.out _).mono ?_); rintro e w1 ⟨rfl, hb1⟩; exact ⟨rfl, hb1⟩)
         | (apply Rg.up_enter; (with_reducible refine (HP.out _).mono ?_); rintro e w1 ⟨rfl, hb1⟩; exact ⟨rfl, hb1⟩)
     simp only [Act.put, List.setIfInBounds_toArray, List.set_cons_zero, List.set_cons_succ])
  refine Rg.wk_nil (Rg.fin0 rfl ?_)
  intro wy hy
  obtain ⟨hcy, hfy⟩ := hy.cells
  go_wp2
  exact bodyPost_ret (v := rbv ((r1, r2), true)) (by simp [results, Try.results95, go_sem, hcy]) rfl ⟨rfl, (by with_reducible repeat (first | exact Ext.refl _ | assumption | apply Ext.drewN | apply Ext.drew | apply Ext.alloc | (refine Ext.setCell ?_ (by simp <;> omega) _) | (refine Ext.trans ?_ (by assumption))))⟩

def doI : Nat → (Int × Int) → (Int × Int) → (Int × Int) × Bool
  | 0 => addI | 1 => subI | 2 => mulI | 3 => quoI | 4 => minI | _ => maxI

theorem do_any (hD : Div64Said) (i : Nat) (a b : Int × Int) (ha : I2 a) (hb : I2 b) (w : World) :
    Calls Try.prog (opFn i) #[rv a, rv b] w fun e w' => e = .returned (rbv (doI i a b)) ∧ Ext w w' := by
  match i with
  | 0 => exact Add_any hD a b ha hb w
  | 1 => exact Sub_any hD a b ha hb w
  | 2 => exact Mul_any a b ha hb w
  | 3 => exact Quo_any a b ha hb w
  | 4 => exact min_any a b ha hb w
  | _ + 5 => exact max_any a b ha hb w

theorem enters_do (i : Nat) (args : Array Value) (w : World) : (callFunc (opFn i) args).run Try.prog w = .ok (.enter (opFn i) args) w := by
  match i with
  | 0 => show (callFunc 88 args).run _ _ = .ok (.enter 88 args) w; go_simp
  | 1 => show (callFunc 89 args).run _ _ = .ok (.enter 89 args) w; go_simp
  | 2 => show (callFunc 90 args).run _ _ = .ok (.enter 90 args) w; go_simp
  | 3 => show (callFunc 91 args).run _ _ = .ok (.enter 91 args) w; go_simp
  | 4 => show (callFunc 92 args).run _ _ = .ok (.enter 92 args) w; go_simp
  | _ + 5 => show (callFunc 95 args).run _ _ = .ok (.enter 95 args) w; go_simp

def applyI (i : Nat) (a b : Int × Int) : (Int × Int) × Int :=
  if i = 3 ∧ b.1 = 0 then ((0, 0), 15) else if (doI i a b).2 then ((doI i a b).1, 0) else ((0, 0), 3)
abbrev rev (p : (Int × Int) × Int) : Value := .tuple #[rv p.1, .int .i64 p.2]

theorem apply_zero (f : Value) (a : Int × Int) (b2 : Int) (w : World) :
    Calls Try.prog 74 #[.agg #[.string ⟨#[47]⟩, f], rv a, rv (0, b2)] w fun e w' => e = .returned (rev ((0, 0), 15)) ∧ Ext w w' := by
  obtain ⟨a1, a2⟩ := a
  go_enter Try.func74, Try.ntmps74
  go_wp2
  exact bodyPost_ret (v := rev ((0, 0), 15)) (by simp [results, Try.results74, go_sem]) rfl ⟨rfl, (by with_reducible repeat (first | exact Ext.refl _ | assumption | apply Ext.drewN | apply Ext.drew | apply Ext.alloc | (refine Ext.setCell ?_ (by simp <;> omega) _) | (refine Ext.trans ?_ (by assumption))))⟩

set_option maxRecDepth 100000 in
set_option maxHeartbeats 2000000 in
theorem apply_do (nm : ByteArray) (f : FuncId) (a b : Int × Int) (h : (nm.toList == [47]) = false ∨ (nm = ⟨#[47]⟩ ∧ ¬ b.1 = 0)) (p : (Int × Int) × Bool) 
    (hE : ∀ (args : Array Value) (w : World), (callFunc f args).run Try.prog w = .ok (.enter f args) w) (hC : ∀ w, Calls Try.prog f #[rv a, rv b] w fun e w' => e = .returned (rbv p) ∧ Ext w w') (w : World) :
    Calls Try.prog 74 #[.agg #[.string nm, .func (.func f) #[] #[]], rv a, rv b] w fun e w' => e = .returned (rev (if p.2 then (p.1, 0) else ((0, 0), 3))) ∧ Ext w w' := by
  have HC := Lib.hid hC; clear hC
  obtain ⟨a1, a2⟩ := a; obtain ⟨b1, b2⟩ := b
  obtain ⟨⟨p1, p2⟩, ok⟩ := p
  rcases h with h | ⟨rfl, h⟩
  · cases ok
    · go_enter Try.func74, Try.ntmps74
      go_wp2_with ((with_reducible refine (HC.out _).mono ?_); rintro e w1 ⟨rfl, hb⟩; obtain ⟨hc, hf⟩ := hb.cells; have hz := hb.size; simp at hz; have z1 : w.heap.size + 1 + 1 + 1 < w1.heap.size := (by omega))
      exact bodyPost_ret (v := rev ((0, 0), 3)) (by simp [results, Try.results74, go_sem, hc, z1]) rfl ⟨rfl, (by with_reducible repeat (first | exact Ext.refl _ | assumption | apply Ext.drewN | apply Ext.drew | apply Ext.alloc | (refine Ext.setCell ?_ (by simp <;> omega) _) | (refine Ext.trans ?_ (by assumption))))⟩
    · go_enter Try.func74, Try.ntmps74
      go_wp2_with ((with_reducible refine (HC.out _).mono ?_); rintro e w1 ⟨rfl, hb⟩; obtain ⟨hc, hf⟩ := hb.cells; have hz := hb.size; simp at hz; have z1 : w.heap.size + 1 + 1 + 1 < w1.heap.size := (by omega))
      exact bodyPost_ret (v := rev ((p1, p2), 0)) (by simp [results, Try.results74, go_sem, hc, z1]) rfl ⟨rfl, (by with_reducible repeat (first | exact Ext.refl _ | assumption | apply Ext.drewN | apply Ext.drew | apply Ext.alloc | (refine Ext.setCell ?_ (by simp <;> omega) _) | (refine Ext.trans ?_ (by assumption))))⟩
  · cases ok
    · go_enter Try.func74, Try.ntmps74
      go_wp2_with ((with_reducible refine (HC.out _).mono ?_); rintro e w1 ⟨rfl, hb⟩; obtain ⟨hc, hf⟩ := hb.cells; have hz := hb.size; simp at hz; have z1 : w.heap.size + 1 + 1 + 1 < w1.heap.size := (by omega))
      exact bodyPost_ret (v := rev ((0, 0), 3)) (by simp [results, Try.results74, go_sem, hc, z1]) rfl ⟨rfl, (by with_reducible repeat (first | exact Ext.refl _ | assumption | apply Ext.drewN | apply Ext.drew | apply Ext.alloc | (refine Ext.setCell ?_ (by simp <;> omega) _) | (refine Ext.trans ?_ (by assumption))))⟩
    · go_enter Try.func74, Try.ntmps74
      go_wp2_with ((with_reducible refine (HC.out _).mono ?_); rintro e w1 ⟨rfl, hb⟩; obtain ⟨hc, hf⟩ := hb.cells; have hz := hb.size; simp at hz; have z1 : w.heap.size + 1 + 1 + 1 < w1.heap.size := (by omega))
      exact bodyPost_ret (v := rev ((p1, p2), 0)) (by simp [results, Try.results74, go_sem, hc, z1]) rfl ⟨rfl, (by with_reducible repeat (first | exact Ext.refl _ | assumption | apply Ext.drewN | apply Ext.drew | apply Ext.alloc | (refine Ext.setCell ?_ (by simp <;> omega) _) | (refine Ext.trans ?_ (by assumption))))⟩

theorem apply_any (hD : Div64Said) (i : Nat) (hi : i < 6) (a b : Int × Int) (ha : I2 a) (hb : I2 b) (w : World) :
    Calls Try.prog 74 #[.agg #[.string (opNm i), .func (.func (opFn i)) #[] #[]], rv a, rv b] w fun e w' => e = .returned (rev (applyI i a b)) ∧ Ext w w' := by
  by_cases h : i = 3 ∧ b.1 = 0
  · rw [show applyI i a b = ((0, 0), 15) from if_pos h]
    obtain ⟨rfl, hb0⟩ := h
    obtain ⟨b1, b2⟩ := b
    simp only at hb0
    subst hb0
    exact apply_zero _ a b2 w
  · rw [show applyI i a b = _ from if_neg h]
    refine apply_do (opNm i) (opFn i) a b ?_ (doI i a b) (enters_do i) (fun w => do_any hD i a b ha hb w) w
    have hi' : i = 0 ∨ i = 1 ∨ i = 2 ∨ i = 3 ∨ i = 4 ∨ i = 5 := by omega
    rcases hi' with rfl | rfl | rfl | rfl | rfl | rfl
    · exact .inl (by simp [opNm, go_sem])
    · exact .inl (by simp [opNm, go_sem])
    · exact .inl (by simp [opNm, go_sem])
    · exact .inr ⟨rfl, fun e => h ⟨rfl, e⟩⟩
    · exact .inl (by simp [opNm, go_sem])
    · exact .inl (by simp [opNm, go_sem])

end Go.Proofs.Ytgkdeknfmmgbdaa
