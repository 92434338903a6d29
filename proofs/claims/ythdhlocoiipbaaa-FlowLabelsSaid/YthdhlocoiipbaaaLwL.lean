/-
  FlowLabels, walked. Conditions: the arguments read as rows of three ints and as items.
-/
import Derived.Test.YthdhlocoiipbaaaFlX
import Derived.Test.YthdhlocoiipbaaaFlH
namespace Go.Proofs.Ythdhlocoiipbaaa
set_option linter.unusedVariables false
set_option linter.unusedSimpArgs false
open Go.RowKit

theorem Ints_self (v u : Value) (l : List Int) (w : World) (hl : IRd w v l) (hm : IRd w u l) :
    Calls Try.prog 14 #[v, u] w fun e w' => e = .returned (.bool true) ∧ Ext w w' :=
  (Ints_any v u l l w hl hm).mono fun e w' ⟨h1, h2⟩ => ⟨by rw [h1, decide_eq_true rfl], h2⟩

set_option maxRecDepth 100000 in
set_option maxHeartbeats 4000000 in
theorem labels_walk (v u : Value) (f : Nat → Nat → Int) (n : Nat) (ys : List It) (w : World) (h : RA 3 w v f n) (hy : RWI w u ys) :
    Calls Try.prog 3 #[v, u] w fun e w' => e = .returned (.bool true) ∧ Ext w w' := by
  have H0 := Lib.hid h; clear h
  have H1 := Lib.hid hy; clear hy
  go_enter Try.func3, Try.ntmps3
  go_upto_region 4 with (first
    | (go_at_call 11; (with_reducible refine (sanity_any _).mono ?_); rintro e w1 ⟨rfl, hx1⟩)
    | (go_at_call 12; (with_reducible refine (Made_any v f n _ (H0.out.ext hx1)).mono ?_); rintro e w2 ⟨r, xs, rfl, hM, hN, hx2⟩)
    | (go_at_call 13; (with_reducible refine (few_any ys u _ ((H1.out.ext hx1).ext hx2)).mono ?_); rintro e w3 ⟨r3, zs, rfl, hZ, hx3⟩))
  have hR := Lib.hid ((hM.ri (by omega)).ext hx3)
  have hZ := Lib.hid hZ
  have hxl : xs.length ≤ 20 := by omega
  clear hM hN
  have hx03 : Ext w w3 := (hx1.trans hx2).trans hx3
  clear hx1 hx2 hx3
  go_wp2_with (first
    | (go_at_call 15; (with_reducible refine (Labels_lab xs _ _ hR.out).mono ?_); rintro e w4 ⟨r4, rfl, hr4, -, hx4⟩; have hr4 := Lib.hid hr4)
    | (go_at_call 16; (with_reducible refine (refLabels_any xs _ _ (hR.out.ext hx4)).mono ?_); rintro e w5 ⟨r5, rfl, ⟨q5, hr5, hq5⟩, hx5⟩; obtain rfl := hq5.map; have hr5 := Lib.hid hr5; clear hq5)
    | (go_at_call 14; (with_reducible refine (Ints_self _ _ _ _ (hr4.out.ext hx5) hr5.out).mono ?_); rintro e w6 ⟨rfl, hx6⟩; have hx36 := (hx4.trans hx5).trans hx6)
    | (go_at_call 15; (with_reducible refine (Labels_lab zs _ _ (hZ.out.ext hx36)).mono ?_); rintro e w7 ⟨r7, rfl, hr7, -, hx7⟩; have hr7 := Lib.hid hr7)
    | (go_at_call 16; (with_reducible refine (refLabels_any zs _ _ ((hZ.out.ext hx36).ext hx7)).mono ?_); rintro e w8 ⟨r8, rfl, ⟨q8, hr8, hq8⟩, hx8⟩; obtain rfl := hq8.map; have hr8 := Lib.hid hr8; clear hq8)
    | (go_at_call 14; (with_reducible refine (Ints_self _ _ _ _ (hr7.out.ext hx8) hr8.out).mono ?_); rintro e w9 ⟨rfl, hx9⟩))
  go_ret
  exact ⟨rfl, (hx03.trans hx36).trans ((hx7.trans hx8).trans hx9)⟩

end Go.Proofs.Ythdhlocoiipbaaa
