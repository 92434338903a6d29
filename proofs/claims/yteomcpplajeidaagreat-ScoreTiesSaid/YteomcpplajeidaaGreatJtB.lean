/-
  Lemmas of this claim (JtB). Nothing is asked.
-/
import Derived.Test.YteomcpplajeidaaGreatJtA
namespace Go.Proofs.YteomcpplajeidaaGreat
set_option linter.unusedVariables false
set_option linter.unusedSimpArgs false
set_option maxRecDepth 100000
open Go.RowKit
def ratS (neg : Bool) (n d : Int) : (Int × Int) × Bool :=
  if 9223372036854775808 < n ∨ (n = 9223372036854775808 ∧ neg = false) ∨ 9223372036854775807 < d then ((0, 1), false) else ((if neg then -n else n, d), true)
abbrev rv (p : Int × Int) : Value := .agg #[.int .i64 p.1, .int .i64 p.2]
abbrev rbv (p : (Int × Int) × Bool) : Value := .tuple #[rv p.1, .bool p.2]
set_option maxHeartbeats 400000 in
theorem rat_no (neg : Bool) (nh nl dh dl : Int) (h1 : 0 ≤ nh) (h2 : 0 ≤ dh)
    (h : 0 < nh ∨ (nh = 0 ∧ 0 < dh) ∨ (nh = 0 ∧ dh = 0 ∧ 9223372036854775807 < dl) ∨ (nh = 0 ∧ dh = 0 ∧ dl ≤ 9223372036854775807 ∧ 9223372036854775808 < nl) ∨ (nh = 0 ∧ dh = 0 ∧ dl ≤ 9223372036854775807 ∧ nl = 9223372036854775808 ∧ neg = false)) (w : World) :
    Calls Tryz.prog 211 #[.bool neg, .agg #[.int .u64 nh, .int .u64 nl], .agg #[.int .u64 dh, .int .u64 dl]] w fun e w' => e = .returned (rbv ((0, 1), false)) ∧ Ext w w' := by
  rcases h with h | ⟨rfl, h⟩ | ⟨rfl, rfl, h⟩ | ⟨rfl, rfl, h', h⟩ | ⟨rfl, rfl, h', rfl, rfl⟩
  all_goals
    go_enter Tryz.func211, Tryz.ntmps211
    go_wp2_with (go_at_call 200; refine (zero_any _).mono ?_; rintro e w1 ⟨rfl, hb⟩; obtain ⟨hc, hf⟩ := hb.cells)
    exact bodyPost_ret (v := rbv ((0, 1), false)) (by simp [results, Tryz.results211, go_sem, hc]) rfl ⟨rfl, (by with_reducible repeat (first | exact Ext.refl _ | assumption | apply Ext.drewN | apply Ext.drew | apply Ext.alloc | (refine Ext.setCell ?_ (by simp <;> omega) _) | (refine Ext.trans ?_ (by assumption))))⟩
theorem neg_min : wrap64 (-wrap64 9223372036854775808) = -9223372036854775808 := by simp [wrap64]
set_option maxHeartbeats 400000 in
theorem rat_yes (neg : Bool) (nl dl : Int) (h1 : 0 ≤ nl) (h2 : 0 ≤ dl) (h : dl ≤ 9223372036854775807) (h' : nl < 9223372036854775808 ∨ (nl = 9223372036854775808 ∧ neg = true)) (w : World) :
    Calls Tryz.prog 211 #[.bool neg, .agg #[.int .u64 0, .int .u64 nl], .agg #[.int .u64 0, .int .u64 dl]] w fun e w' => e = .returned (rbv ((if neg then -nl else nl, dl), true)) ∧ Ext w w' := by
  rcases h' with h' | ⟨rfl, rfl⟩
  · cases neg
    · go_enter Tryz.func211, Tryz.ntmps211
      go_wp2
      exact bodyPost_ret (v := rbv ((nl, dl), true)) (by simp [results, Tryz.results211, go_sem]) rfl ⟨rfl, (by with_reducible repeat (first | exact Ext.refl _ | assumption | apply Ext.drewN | apply Ext.drew | apply Ext.alloc | (refine Ext.setCell ?_ (by simp <;> omega) _) | (refine Ext.trans ?_ (by assumption))))⟩
    · go_enter Tryz.func211, Tryz.ntmps211
      go_wp2
      exact bodyPost_ret (v := rbv ((-nl, dl), true)) (by simp [results, Tryz.results211, go_sem]) rfl ⟨rfl, (by with_reducible repeat (first | exact Ext.refl _ | assumption | apply Ext.drewN | apply Ext.drew | apply Ext.alloc | (refine Ext.setCell ?_ (by simp <;> omega) _) | (refine Ext.trans ?_ (by assumption))))⟩
  · go_enter Tryz.func211, Tryz.ntmps211
    go_wp2
    exact bodyPost_ret (v := rbv ((-9223372036854775808, dl), true)) (by simp [results, Tryz.results211, go_sem, neg_min]) rfl ⟨rfl, (by with_reducible repeat (first | exact Ext.refl _ | assumption | apply Ext.drewN | apply Ext.drew | apply Ext.alloc | (refine Ext.setCell ?_ (by simp <;> omega) _) | (refine Ext.trans ?_ (by assumption))))⟩
theorem rat_any (neg : Bool) (n d : Int) (h1 : Wide n) (h2 : Wide d) (w : World) :
    Calls Tryz.prog 211 #[.bool neg, .agg #[.int .u64 (hiW n), .int .u64 (loW n)], .agg #[.int .u64 (hiW d), .int .u64 (loW d)]] w fun e w' => e = .returned (rbv (ratS neg n d)) ∧ Ext w w' := by
  have a1 := hiW_word h1; have a2 := loW_word n; have a3 := hiW_word h2; have a4 := loW_word d
  have e1 := wide_eq n; have e2 := wide_eq d
  unfold Word at *
  unfold ratS
  by_cases h : 9223372036854775808 < n ∨ (n = 9223372036854775808 ∧ neg = false) ∨ 9223372036854775807 < d
  · rw [if_pos h]
    refine rat_no neg _ _ _ _ a1.1 a3.1 ?_ w
    by_cases hn : 0 < hiW n
    · exact .inl hn
    by_cases hd : 0 < hiW d
    · exact .inr (.inl ⟨by omega, hd⟩)
    by_cases hl : 9223372036854775807 < loW d
    · exact .inr (.inr (.inl ⟨by omega, by omega, hl⟩))
    rcases h with h | ⟨h, h0⟩ | h
    · exact .inr (.inr (.inr (.inl ⟨by omega, by omega, by omega, by omega⟩)))
    · exact .inr (.inr (.inr (.inr ⟨by omega, by omega, by omega, by omega, h0⟩)))
    · omega
  · rw [if_neg h]
    have f1 : hiW n = 0 := by omega
    have f2 : hiW d = 0 := by omega
    have f3 : loW n = n := by omega
    have f4 : loW d = d := by omega
    rw [f1, f2, f3, f4]
    refine rat_yes neg n d (by omega) (by omega) (by omega) ?_ w
    by_cases hn : n = 9223372036854775808
    · right
      refine ⟨hn, ?_⟩
      cases neg
      · exact absurd (.inr (.inl ⟨hn, rfl⟩)) h
      · rfl
    · left; omega
def orZ (a b : Int) : Int := if a = 0 then b else a
set_option maxHeartbeats 400000 in
theorem Or_any (a b : Int) (w : World) (p : Nat) (h0 : w.cell? ⟨p, 0, none⟩ = some (.int .i64 a)) (h1 : w.cell? ⟨p, 1, none⟩ = some (.int .i64 b)) :
    Calls Tryz.prog 123 #[.slice (some ⟨p, 0, none⟩) 2 2] w fun e w' => e = .returned (.int .i64 (orZ a b)) ∧ w = w' := by
  by_cases ha : a = 0
  · subst ha
    rw [show orZ 0 b = b from if_pos rfl]
    by_cases hb : b = 0
    · subst hb
      go_enter Tryz.func123, Tryz.ntmps123
      go_wp2
      refine wp_loop_rounds 3 ?_
      repeat any_goals (rw [rounds_succ]; go_wp2)
      go_ret
      exact ⟨rfl, rfl⟩
    · go_enter Tryz.func123, Tryz.ntmps123
      go_wp2
      refine wp_loop_rounds 3 ?_
      repeat any_goals (rw [rounds_succ]; go_wp2)
      go_ret
      exact ⟨rfl, rfl⟩
  · rw [show orZ a b = a from if_neg ha]
    go_enter Tryz.func123, Tryz.ntmps123
    go_wp2
    refine wp_loop_rounds 3 ?_
    repeat any_goals (rw [rounds_succ]; go_wp2)
    go_ret
    exact ⟨rfl, rfl⟩
set_option maxHeartbeats 1000000 in
theorem compare_raw (ah al bh bl : Int) (w : World) :
    Calls Tryz.prog 73 #[.agg #[.int .u64 ah, .int .u64 al], .agg #[.int .u64 bh, .int .u64 bl]] w fun e w' => e = .returned (.int .i64 (orZ (cmpZ ah bh) (cmpZ al bl))) ∧ Ext w w' := by
  go_enter Tryz.func73, Tryz.ntmps73
  go_wp2
  go_region_held3 (fun w' => w'.cell? ⟨w.heap.size, 0, none⟩ = some (.int .u64 ah) ∧ w'.cell? ⟨w.heap.size, 1, none⟩ = some (.int .u64 al) ∧ w'.cell? ⟨w.heap.size + 1, 0, none⟩ = some (.int .u64 bh) ∧ w'.cell? ⟨w.heap.size + 1, 1, none⟩ = some (.int .u64 bl)) (simp [*, World.cell?_alloc_some])
    (first | (go_at_call 124; refine (Compare_u _ _ _).mono ?_; rintro e w' ⟨rfl, rfl⟩) | (go_at_call 123; refine (Or_any (cmpZ ah bh) (cmpZ al bl) _ _ ?_ ?_).mono ?_; (simp [go_sem]); (simp [go_sem]); rintro e w' ⟨rfl, rfl⟩))
  go_wp2
  go_ret
  exact ⟨rfl, (by with_reducible repeat (first | exact Ext.refl _ | assumption | apply Ext.drewN | apply Ext.drew | apply Ext.alloc | (refine Ext.setCell ?_ (by simp <;> omega) _) | (refine Ext.trans ?_ (by assumption))))⟩
theorem compare_any (a b : Int) (h1 : Wide a) (h2 : Wide b) (w : World) :
    Calls Tryz.prog 73 #[.agg #[.int .u64 (hiW a), .int .u64 (loW a)], .agg #[.int .u64 (hiW b), .int .u64 (loW b)]] w fun e w' => e = .returned (.int .i64 (cmpZ a b)) ∧ Ext w w' := by
  refine (compare_raw _ _ _ _ w).mono fun _ _ h => ⟨?_, h.2⟩
  rw [h.1]
  refine ret_int ?_
  have a1 := hiW_word h1; have a2 := loW_word a; have a3 := hiW_word h2; have a4 := loW_word b
  have e1 := wide_eq a; have e2 := wide_eq b
  unfold Word at *
  unfold orZ cmpZ
  (repeat' split) <;> omega
def Div64Said : Prop := ∀ (hi lo y : Int) (w : World), 0 ≤ hi → hi < y → 0 ≤ lo → lo < 18446744073709551616 → y < 18446744073709551616 →
  Calls Tryz.prog 215 #[.int .u64 hi, .int .u64 lo, .int .u64 y] w fun e w' => e = .returned (.tuple #[.int .u64 ((hi * 18446744073709551616 + lo) / y), .int .u64 ((hi * 18446744073709551616 + lo) % y)]) ∧ ∃ n, w' = w.drewN n
theorem over_math (n b : Int) (h1 : Wide n) (h3 : 0 < b) :
    hiW n / b = hiW (n / b) ∧ (hiW n % b * 18446744073709551616 + loW n) / b = loW (n / b) ∧ (hiW n % b * 18446744073709551616 + loW n) % b = n % b := by
  have e := wide_eq n
  have l := loW_word n
  obtain ⟨l1, l2⟩ := l
  obtain ⟨a1, a2⟩ := hiW_word h1
  generalize hiW n = H at *
  generalize loW n = L at *
  subst e
  have d1 := Int.emod_add_mul_ediv H b
  have r1 := Int.emod_nonneg H (show b ≠ 0 by omega)
  have r2 := Int.emod_lt_of_pos H h3
  generalize H / b = Q at *
  generalize H % b = R at *
  have e1 : H * 18446744073709551616 + L = (R * 18446744073709551616 + L) + b * (Q * 18446744073709551616) := by
    rw [← d1, Int.add_mul, Int.mul_assoc]; omega
  have e2 : (H * 18446744073709551616 + L) / b = (R * 18446744073709551616 + L) / b + Q * 18446744073709551616 := by
    rw [e1, Int.add_mul_ediv_left _ _ (by omega)]
  have e3 : (H * 18446744073709551616 + L) % b = (R * 18446744073709551616 + L) % b := by
    rw [e1, Int.add_mul_emod_self_left]
  have f1 : 0 ≤ (R * 18446744073709551616 + L) / b := Int.ediv_nonneg (by omega) (by omega)
  have f2 : (R * 18446744073709551616 + L) / b < 18446744073709551616 := by
    rw [Int.ediv_lt_iff_lt_mul h3]
    have : (R + 1) * 18446744073709551616 ≤ b * 18446744073709551616 := Int.mul_le_mul_of_nonneg_right (by omega) (by omega)
    omega
  rw [e2, e3]
  unfold hiW loW
  refine ⟨by omega, by omega, rfl⟩
set_option maxHeartbeats 1000000 in
theorem over_any (hD : Div64Said) (n b : Int) (h1 : Wide n) (h2 : Word b) (h3 : 0 < b) (w : World) :
    Calls Tryz.prog 210 #[.agg #[.int .u64 (hiW n), .int .u64 (loW n)], .int .u64 b] w fun e w' => e = .returned (.tuple #[.agg #[.int .u64 (hiW (n / b)), .int .u64 (loW (n / b))], .int .u64 (n % b)]) ∧ Ext w w' := by
  have hne : ¬ b = 0 := by omega
  obtain ⟨a1, a2⟩ := hiW_word h1; obtain ⟨a3, a4⟩ := loW_word n
  obtain ⟨k1, k2, k3⟩ := over_math n b h1 h3
  have K1 := Lib.hid k1; have K2 := Lib.hid k2; have K3 := Lib.hid k3; clear k1 k2 k3
  have b1 := Int.emod_nonneg (hiW n) hne
  have b2 := Int.emod_lt_of_pos (hiW n) h3
  obtain ⟨c1, c2⟩ := h2
  have HD := Lib.hid (hD (hiW n % b) (loW n) b); clear hD
  go_enter Tryz.func210, Tryz.ntmps210
  go_wp2
  go_quiet (fail)
  go_wp2_with (go_at_call 215; refine (HD.out _ b1 b2 a3 a4 c2).mono ?_; rintro e w' ⟨rfl, nn, rfl⟩; rw [K2.out, K3.out])
  exact bodyPost_ret (v := .tuple #[.agg #[.int .u64 (hiW (n / b)), .int .u64 (loW (n / b))], .int .u64 (n % b)]) (by simp [results, Tryz.results210, go_sem, K1.out]) rfl ⟨rfl, (by with_reducible repeat (first | exact Ext.refl _ | assumption | apply Ext.drewN | apply Ext.drew | apply Ext.alloc | (refine Ext.setCell ?_ (by simp <;> omega) _) | (refine Ext.trans ?_ (by assumption))))⟩
end Go.Proofs.YteomcpplajeidaaGreat
