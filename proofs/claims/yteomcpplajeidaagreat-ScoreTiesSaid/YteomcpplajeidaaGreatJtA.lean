/-
  Lemmas of this claim (JtA). Nothing is asked.
-/
import Derived.Test.YteomcpplajeidaaGreatBase
namespace Go.Proofs.YteomcpplajeidaaGreat
set_option linter.unusedVariables false
set_option linter.unusedSimpArgs false
set_option maxRecDepth 100000
open Go.RowKit
theorem ret_int {k : IntKind} {a b : Int} (h : a = b) : Ending.returned (.int k a) = .returned (.int k b) := by rw [h]
def sizeZ (n : Int) : Int := if n < 0 then -n else n
set_option maxHeartbeats 400000 in
theorem size_any (n : Int) (h1 : -9223372036854775808 ≤ n) (h2 : n ≤ 9223372036854775807) (w : World) :
    Calls Tryz.prog 121 #[.int .i64 n] w fun e w' => e = .returned (.int .u64 (sizeZ n)) ∧ w = w' := by
  go_enter Tryz.func121, Tryz.ntmps121
  go_wp2
  · go_ret
    refine ⟨?_, rfl⟩
    rw [show sizeZ n = -n from if_pos (by assumption)]
    simp [IntKind.wrap_u64]; omega
  · go_ret
    refine ⟨?_, rfl⟩
    have h' : ¬ n < 0 := Int.not_lt.2 (by assumption)
    simp [sizeZ, h']
theorem gcd_step (a b : Nat) (h : 0 < b) : Nat.gcd b (a % b) = Nat.gcd a b := by
  rw [Nat.gcd_comm a b, Nat.gcd_rec b a, Nat.gcd_comm]
set_option maxHeartbeats 400000 in
theorem gcd_any (a b : Nat) (h1 : a < 18446744073709551616) (h2 : b < 18446744073709551616) (w : World) :
    Calls Tryz.prog 166 #[.int .u64 a, .int .u64 b] w fun e w' => e = .returned (.int .u64 (Nat.gcd a b)) ∧ ∃ n, w' = w.drewN n := by
  go_enter Tryz.func166, Tryz.ntmps166
  go_wp2
  go_loopw [0, 1] (fun x y wr => ∃ p q : Nat, p < 18446744073709551616 ∧ q < 18446744073709551616 ∧ x = .int .u64 p ∧ y = .int .u64 q ∧ Nat.gcd p q = Nat.gcd a b ∧ ∃ n, wr = w.drewN n) (fun _ y _ => (intOf y).toNat)
  case atStart => exact ⟨a, b, h1, h2, rfl, rfl, rfl, 0, rfl⟩
  case round =>
    obtain ⟨p, q, hp, hq, rfl, rfl, hg, n, rfl⟩ := hrel
    have Hg := Lib.hid hg; clear hg
    rcases Nat.eq_zero_or_pos q with h0 | hlt
    · subst h0
      go_wp2
      go_ret
      refine ⟨?_, n, rfl⟩
      have := Hg.out
      simp at this
      simp [this]
    · have hne : ¬ q = 0 := by omega
      go_wp2
      go_quiet (fail)
      go_wp2
      go_roundw
      case rel => exact ⟨q, p % q, hq, by have := Nat.mod_lt p hlt; omega, rfl, by simp, by rw [← Hg.out, gcd_step p q hlt], n + nq, by simp⟩
      case measure => simp [intOf]; have := Nat.mod_lt p hlt; omega
theorem gcd_z (a b : Int) (h1 : 0 ≤ a) (h2 : 0 ≤ b) (h3 : a < 18446744073709551616) (h4 : b < 18446744073709551616) (w : World) :
    Calls Tryz.prog 166 #[.int .u64 a, .int .u64 b] w fun e w' => e = .returned (.int .u64 (Int.gcd a b)) ∧ ∃ n, w' = w.drewN n := by
  obtain ⟨a, rfl⟩ := Int.eq_ofNat_of_zero_le h1
  obtain ⟨b, rfl⟩ := Int.eq_ofNat_of_zero_le h2
  exact gcd_any a b (by omega) (by omega) w
theorem sizeZ_natAbs (n : Int) : sizeZ n = n.natAbs := by unfold sizeZ; split <;> omega
set_option maxHeartbeats 400000 in
theorem Right_no (n d : Int) (hd : d ≤ 0) (w : World) :
    Calls Tryz.prog 120 #[.agg #[.int .i64 n, .int .i64 d]] w fun e w' => e = .returned (.bool false) ∧ Ext w w' := by
  have hd' : decide ((0:Int) < d) = false := decide_eq_false (by omega)
  go_enter Tryz.func120, Tryz.ntmps120
  go_wp2
  go_quiet (fail)
  go_wp2
  go_ret
  exact ⟨rfl, ((Ext.refl _).alloc _).drewN _⟩
set_option maxHeartbeats 400000 in
theorem Right_yes (n d : Int) (h1 : -9223372036854775808 ≤ n) (h2 : n ≤ 9223372036854775807) (hd : 0 < d) (hd2 : d ≤ 9223372036854775807) (w : World) :
    Calls Tryz.prog 120 #[.agg #[.int .i64 n, .int .i64 d]] w fun e w' => e = .returned (.bool (((sizeZ n).gcd d : Int) == 1)) ∧ Ext w w' := by
  have hs1 : 0 ≤ sizeZ n := by rw [sizeZ_natAbs]; omega
  have hs2 : sizeZ n < 18446744073709551616 := by rw [sizeZ_natAbs]; omega
  go_enter Tryz.func120, Tryz.ntmps120
  go_wp2
  go_quiet (first | (go_at_call 121; refine Calls.quiet_of_same ((size_any n h1 h2 _).mono fun _ _ h => ⟨h.1, h.2.symm⟩)) | (go_at_call 166; refine Calls.quiet_of (gcd_z _ _ hs1 (by omega) hs2 (by omega) _)))
  go_wp2
  go_ret
  exact ⟨rfl, ((Ext.refl _).alloc _).drewN _⟩
def rightB (n d : Int) : Bool := decide (0 < d) && ((sizeZ n).gcd d : Int) == 1
theorem Right_any (n d : Int) (h1 : -9223372036854775808 ≤ n) (h2 : n ≤ 9223372036854775807) (hd2 : d ≤ 9223372036854775807) (w : World) :
    Calls Tryz.prog 120 #[.agg #[.int .i64 n, .int .i64 d]] w fun e w' => e = .returned (.bool (rightB n d)) ∧ Ext w w' := by
  by_cases hd : 0 < d
  · refine (Right_yes n d h1 h2 hd hd2 w).mono fun _ _ h => ⟨?_, h.2⟩
    rw [h.1]; simp [rightB, hd]
  · refine (Right_no n d (by omega) w).mono fun _ _ h => ⟨?_, h.2⟩
    rw [h.1]; simp [rightB, hd]
set_option maxHeartbeats 400000 in
theorem of_any (n d : Int) (h1 : -9223372036854775808 ≤ n) (h2 : n ≤ 9223372036854775807) (h3 : -9223372036854775808 ≤ d) (h4 : d ≤ 9223372036854775807) (w : World) :
    Calls Tryz.prog 71 #[.agg #[.int .i64 n, .int .i64 d]] w fun e w' => e = .returned (.agg #[.bool (decide (n < 0)), .int .u64 (sizeZ n), .int .u64 (sizeZ d)]) ∧ Ext w w' := by
  go_enter Tryz.func71, Tryz.ntmps71
  go_wp2
  go_region_held3 (fun w' => w'.cell? ⟨w.heap.size, 0, none⟩ = some (.int .i64 n) ∧ w'.cell? ⟨w.heap.size, 1, none⟩ = some (.int .i64 d)) (simp [*, World.cell?_alloc_some])
    (first | (go_at_call 121; refine (size_any _ (by omega) (by omega) _).mono ?_; rintro e w' ⟨rfl, rfl⟩))
  go_wp2
  exact bodyPost_ret (v := .agg #[.bool (decide (n < 0)), .int .u64 (sizeZ n), .int .u64 (sizeZ d)]) (by simp [results, Tryz.results71, go_sem]) rfl ⟨rfl, (((Ext.refl _).alloc _).alloc _).drew⟩
theorem zero_any (w : World) : Calls Tryz.prog 200 #[] w fun e w' => e = .returned (.agg #[.int .i64 0, .int .i64 1]) ∧ Ext w w' := by
  go_enter Tryz.func200, Tryz.ntmps200
  go_wp2
  exact bodyPost_ret (v := .agg #[.int .i64 0, .int .i64 1]) (by simp [results, Tryz.results200, go_sem]) rfl ⟨rfl, ((Ext.refl _).alloc _)⟩
theorem Of_any (n : Int) (w : World) : Calls Tryz.prog 136 #[.int .i64 n] w fun e w' => e = .returned (.agg #[.int .i64 n, .int .i64 1]) ∧ Ext w w' := by
  go_enter Tryz.func136, Tryz.ntmps136
  go_wp2
  exact bodyPost_ret (v := .agg #[.int .i64 n, .int .i64 1]) (by simp [results, Tryz.results136, go_sem]) rfl ⟨rfl, ((Ext.refl _).alloc _)⟩
theorem refOf_any (n : Int) (w : World) : Calls Tryz.prog 28 #[.int .i64 n] w fun e w' => e = .returned (.agg #[.int .i64 n, .int .i64 1]) ∧ Ext w w' := by
  go_enter Tryz.func28, Tryz.ntmps28
  go_wp2
  exact bodyPost_ret (v := .agg #[.int .i64 n, .int .i64 1]) (by simp [results, Tryz.results28, go_sem]) rfl ⟨rfl, ((Ext.refl _).alloc _)⟩
set_option maxHeartbeats 400000 in
theorem both_any (n d m c : Int) (h1 : -9223372036854775808 ≤ n) (h2 : n ≤ 9223372036854775807) (h4 : d ≤ 9223372036854775807) (h5 : -9223372036854775808 ≤ m) (h6 : m ≤ 9223372036854775807) (h8 : c ≤ 9223372036854775807) (w : World) :
    Calls Tryz.prog 70 #[.agg #[.int .i64 n, .int .i64 d], .agg #[.int .i64 m, .int .i64 c]] w fun e w' => e = .returned (.bool (rightB n d && rightB m c)) ∧ Ext w w' := by
  cases hr : rightB n d
  · have Hr := Lib.hid hr; clear hr
    go_enter Tryz.func70, Tryz.ntmps70
    go_wp2_with (go_at_call 120; refine (Right_any n d h1 h2 h4 _).mono ?_; rintro e w1 ⟨rfl, hb⟩; rw [Hr.out])
    go_ret
    exact ⟨rfl, Ext.trans (((Ext.refl _).alloc _).alloc _) hb⟩
  · have Hr := Lib.hid hr; clear hr
    go_enter Tryz.func70, Tryz.ntmps70
    go_wp2_with (first
      | (go_at_call 120; (with_reducible refine (Right_any n d h1 h2 h4 _).mono ?_); rintro e w1 ⟨rfl, hb⟩; rw [Hr.out]; obtain ⟨hc, hf⟩ := hb.cells)
      | (go_at_call 120; refine (Right_any m c h5 h6 h8 _).mono ?_; rintro e w2 ⟨rfl, hb2⟩))
    go_ret
    exact ⟨by simp, Ext.trans (Ext.trans (((Ext.refl _).alloc _).alloc _) hb) hb2⟩
theorem isNaN_i (n : Int) (w : World) : Calls Tryz.prog 122 #[.int .i64 n] w fun e w' => e = .returned (.bool false) ∧ w = w' := by
  go_enter Tryz.func122, Tryz.ntmps122
  go_wp2
  go_ret
  exact ⟨by simp, rfl⟩
theorem isNaN_u (n : Int) (w : World) : Calls Tryz.prog 167 #[.int .u64 n] w fun e w' => e = .returned (.bool false) ∧ w = w' := by
  go_enter Tryz.func167, Tryz.ntmps167
  go_wp2
  go_ret
  exact ⟨by simp, rfl⟩
def cmpZ (a b : Int) : Int := if a < b then -1 else if b < a then 1 else 0
set_option maxHeartbeats 400000 in
theorem Compare_i (a b : Int) (w : World) : Calls Tryz.prog 72 #[.int .i64 a, .int .i64 b] w fun e w' => e = .returned (.int .i64 (cmpZ a b)) ∧ w = w' := by
  go_enter Tryz.func72, Tryz.ntmps72
  go_wp2_with (go_at_call 122; refine (isNaN_i _ _).mono ?_; rintro e w' ⟨rfl, rfl⟩)
  all_goals go_ret
  all_goals refine ⟨?_, rfl⟩
  all_goals (refine ret_int ?_; unfold cmpZ; (repeat' split) <;> omega)
set_option maxHeartbeats 400000 in
theorem Compare_u (a b : Int) (w : World) : Calls Tryz.prog 124 #[.int .u64 a, .int .u64 b] w fun e w' => e = .returned (.int .i64 (cmpZ a b)) ∧ w = w' := by
  go_enter Tryz.func124, Tryz.ntmps124
  go_wp2_with (go_at_call 167; refine (isNaN_u _ _).mono ?_; rintro e w' ⟨rfl, rfl⟩)
  all_goals go_ret
  all_goals refine ⟨?_, rfl⟩
  all_goals (refine ret_int ?_; unfold cmpZ; (repeat' split) <;> omega)
namespace M64
theorem maskN (a : Nat) (ha : a < 18446744073709551616) : bits .and .u64 (a : Int) 4294967295 = ((a % 4294967296 : Nat) : Int) := by
  have h := bits_and_u64_nat a 4294967295 ha (by omega)
  have e : a &&& 4294967295 = a % 4294967296 := Nat.and_two_pow_sub_one_eq_mod a 32
  rw [e] at h
  exact h
theorem divN (a : Nat) : (a : Int) / 4294967296 = ((a / 4294967296 : Nat) : Int) := by omega
theorem mulN (a b : Nat) : (a : Int) * (b : Int) = ((a * b : Nat) : Int) := (Int.natCast_mul a b).symm
theorem addN (a b : Nat) : (a : Int) + (b : Int) = ((a + b : Nat) : Int) := (Int.natCast_add a b).symm
theorem wrapN (a : Nat) (ha : a < 18446744073709551616) : IntKind.u64.wrap (a : Int) = (a : Int) := by rw [IntKind.wrap_u64]; omega
theorem wrapM (a : Nat) : IntKind.u64.wrap (a : Int) = ((a % 18446744073709551616 : Nat) : Int) := by rw [IntKind.wrap_u64]; omega
end M64
set_option maxHeartbeats 1000000 in
theorem Mul64_nat (x y : Nat) (hx : x < 18446744073709551616) (hy : y < 18446744073709551616) (w : World) :
    Calls Tryz.prog 125 #[.int .u64 x, .int .u64 y] w fun e w' => e = .returned (.tuple #[.int .u64 ((x * y / 18446744073709551616 : Nat) : Int), .int .u64 ((x * y % 18446744073709551616 : Nat) : Int)]) ∧ w = w' := by
  obtain ⟨bd, bt, bw, hhi⟩ := Lib.mul64_hi x y hx hy
  have ba := Lib.half_mul_le (a := x / 4294967296) (b := y / 4294967296) (by omega) (by omega)
  have bb := Lib.half_mul_le (a := x / 4294967296) (b := y % 4294967296) (by omega) (by omega)
  have bc := Lib.half_mul_le (a := x % 4294967296) (b := y / 4294967296) (by omega) (by omega)
  have ba' : x / 4294967296 * (y / 4294967296) < 18446744073709551616 := by omega
  have bb' : x / 4294967296 * (y % 4294967296) < 18446744073709551616 := by omega
  have bc' : x % 4294967296 * (y / 4294967296) < 18446744073709551616 := by omega
  have bh1 : x / 4294967296 * (y / 4294967296) + (x / 4294967296 * (y % 4294967296) + x % 4294967296 * (y % 4294967296) / 4294967296) / 4294967296 < 18446744073709551616 := by omega
  have bh : x / 4294967296 * (y / 4294967296) + (x / 4294967296 * (y % 4294967296) + x % 4294967296 * (y % 4294967296) / 4294967296) / 4294967296 + ((x / 4294967296 * (y % 4294967296) + x % 4294967296 * (y % 4294967296) / 4294967296) % 4294967296 + x % 4294967296 * (y / 4294967296)) / 4294967296 < 18446744073709551616 := by omega
  go_enter Tryz.func125, Tryz.ntmps125
  go_wp2
  simp only [M64.maskN x hx, M64.maskN y hy, M64.divN, M64.mulN, M64.addN, M64.wrapN _ bd, M64.wrapN _ bb', M64.wrapN _ bt, M64.maskN _ bt, M64.wrapN _ bc', M64.wrapN _ bw, M64.wrapN _ ba', M64.wrapN _ bh1, M64.wrapN _ bh, M64.wrapM (x * y)]
  rw [hhi]
  go_ret2
  exact ⟨rfl, rfl⟩
theorem Mul64_any (a b : Int) (h1 : 0 ≤ a) (h2 : a < 18446744073709551616) (h3 : 0 ≤ b) (h4 : b < 18446744073709551616) (w : World) :
    Calls Tryz.prog 125 #[.int .u64 a, .int .u64 b] w fun e w' => e = .returned (.tuple #[.int .u64 (a * b / 18446744073709551616), .int .u64 (a * b % 18446744073709551616)]) ∧ w = w' := by
  obtain ⟨x, rfl⟩ := Int.eq_ofNat_of_zero_le h1
  obtain ⟨y, rfl⟩ := Int.eq_ofNat_of_zero_le h3
  refine (Mul64_nat x y (by omega) (by omega) w).mono fun _ _ h => ⟨?_, h.2⟩
  rw [h.1, ← Int.natCast_mul]
  rfl
set_option maxHeartbeats 400000 in
theorem product_any (a b : Int) (h1 : 0 ≤ a) (h2 : a < 18446744073709551616) (h3 : 0 ≤ b) (h4 : b < 18446744073709551616) (w : World) :
    Calls Tryz.prog 74 #[.int .u64 a, .int .u64 b] w fun e w' => e = .returned (.agg #[.int .u64 (a * b / 18446744073709551616), .int .u64 (a * b % 18446744073709551616)]) ∧ Ext w w' := by
  go_enter Tryz.func74, Tryz.ntmps74
  go_wp2_with (go_at_call 125; refine (Mul64_any a b h1 h2 h3 h4 _).mono ?_; rintro e w1 ⟨rfl, rfl⟩)
  exact bodyPost_ret (v := .agg #[.int .u64 (a * b / 18446744073709551616), .int .u64 (a * b % 18446744073709551616)]) (by simp [results, Tryz.results74, go_sem]) rfl ⟨rfl, ((Ext.refl _).alloc _)⟩
theorem add64 (x y c : Int) (hx : 0 ≤ x) (hy : 0 ≤ y) (hc0 : 0 ≤ c) (hc : c ≤ 1) (w : World) : (callFunc 213 #[.int .u64 x, .int .u64 y, .int .u64 c]).run Tryz.prog w =
    .ok (.value (.tuple #[.int .u64 ((x + y + c) % 18446744073709551616), .int .u64 ((x + y + c) / 18446744073709551616)])) w := by
  obtain ⟨x, rfl⟩ := Int.eq_ofNat_of_zero_le hx
  obtain ⟨y, rfl⟩ := Int.eq_ofNat_of_zero_le hy
  obtain ⟨c, rfl⟩ := Int.eq_ofNat_of_zero_le hc0
  rw [run_callFunc_extern Tryz.func213 (by kernel_rfl) (by kernel_rfl) (by kernel_rfl) (e := add64Entry) (by kernel_rfl), run_add64 x y c (by omega) (by omega) (by omega) (by omega)]
  simp only [Result.andThen]
def bor (x y : Int) : Int := if x < y then 1 else 0
theorem bor_cases (x y : Int) : (bor x y = 1 ∧ x < y) ∨ (bor x y = 0 ∧ y ≤ x) := by unfold bor; split <;> omega
theorem sub64 (x y b : Int) (hx : 0 ≤ x) (hy : 0 ≤ y) (hy' : y < 18446744073709551616) (hb0 : 0 ≤ b) (hb : b ≤ 1) (w : World) : (callFunc 214 #[.int .u64 x, .int .u64 y, .int .u64 b]).run Tryz.prog w =
    .ok (.value (.tuple #[.int .u64 ((x - y - b) % 18446744073709551616), .int .u64 (bor x (y + b))])) w := by
  obtain ⟨x, rfl⟩ := Int.eq_ofNat_of_zero_le hx
  obtain ⟨y, rfl⟩ := Int.eq_ofNat_of_zero_le hy
  obtain ⟨b, rfl⟩ := Int.eq_ofNat_of_zero_le hb0
  have e1 : (((x + 18446744073709551616 - y - b) % 18446744073709551616 : Nat) : Int) = ((x : Int) - y - b) % 18446744073709551616 := by omega
  have e2 : ((if x < y + b then 1 else 0 : Nat) : Int) = bor x (y + b) := by unfold bor; split <;> split <;> omega
  rw [← e1, ← e2]
  rw [run_callFunc_extern Tryz.func214 (by kernel_rfl) (by kernel_rfl) (by kernel_rfl) (e := sub64Entry) (by kernel_rfl), run_sub64 x y b (by omega)]
  rfl
theorem add64_0 (x y : Int) (hx : 0 ≤ x) (hy : 0 ≤ y) (w : World) : (callFunc 213 #[.int .u64 x, .int .u64 y, .int .u64 0]).run Tryz.prog w =
    .ok (.value (.tuple #[.int .u64 ((x + y) % 18446744073709551616), .int .u64 ((x + y) / 18446744073709551616)])) w := by
  simpa using add64 x y 0 hx hy (Int.le_refl 0) (by decide) w
theorem sub64_0 (x y : Int) (hx : 0 ≤ x) (hy : 0 ≤ y) (hy' : y < 18446744073709551616) (w : World) : (callFunc 214 #[.int .u64 x, .int .u64 y, .int .u64 0]).run Tryz.prog w =
    .ok (.value (.tuple #[.int .u64 ((x - y) % 18446744073709551616), .int .u64 (bor x y)])) w := by
  simpa using sub64 x y 0 hx hy hy' (Int.le_refl 0) (by decide) w
def hiW (n : Int) : Int := n / 18446744073709551616
def loW (n : Int) : Int := n % 18446744073709551616
def Word (x : Int) : Prop := 0 ≤ x ∧ x < 18446744073709551616
def Wide (x : Int) : Prop := 0 ≤ x ∧ x < 340282366920938463463374607431768211456
theorem hiW_word {n : Int} (h : Wide n) : Word (hiW n) := by unfold Wide at h; unfold hiW Word; omega
theorem loW_word (n : Int) : Word (loW n) := by unfold loW Word; omega
theorem wide_eq (n : Int) : n = hiW n * 18446744073709551616 + loW n := by unfold hiW loW; omega
set_option maxHeartbeats 400000 in
theorem wadd_any (a b : Int) (h1 : Wide a) (h2 : Wide b) (h3 : Wide (a + b)) (w : World) :
    Calls Tryz.prog 208 #[.agg #[.int .u64 (hiW a), .int .u64 (loW a)], .agg #[.int .u64 (hiW b), .int .u64 (loW b)]] w fun e w' => e = .returned (.agg #[.int .u64 (hiW (a + b)), .int .u64 (loW (a + b))]) ∧ Ext w w' := by
  obtain ⟨a1, a2⟩ := hiW_word h1; obtain ⟨b1, b2⟩ := loW_word a; obtain ⟨c1, c2⟩ := hiW_word h2; obtain ⟨d1, d2⟩ := loW_word b
  have k0 : 0 ≤ (loW a + loW b) / 18446744073709551616 := by omega
  have k1 : (loW a + loW b) / 18446744073709551616 ≤ 1 := by omega
  have E1 := Lib.hid (show loW (a + b) = (loW a + loW b) % 18446744073709551616 by have := wide_eq a; have := wide_eq b; simp only [loW]; omega)
  have E2 := Lib.hid (show hiW (a + b) = (hiW a + hiW b + (loW a + loW b) / 18446744073709551616) % 18446744073709551616 by
    unfold Wide at h3; simp only [loW, hiW]; omega)
  clear h1 h2 h3
  go_enter Tryz.func208, Tryz.ntmps208
  go_wp2_with (first | simp only [add64_0 (loW a) (loW b) b1 d1] | simp only [add64 (hiW a) (hiW b) _ a1 c1 k0 k1])
  refine bodyPost_ret (v := .agg #[.int .u64 ((hiW a + hiW b + (loW a + loW b) / 18446744073709551616) % 18446744073709551616), .int .u64 ((loW a + loW b) % 18446744073709551616)]) (by simp [results, Tryz.results208, go_sem]) rfl ⟨?_, (((Ext.refl _).alloc _).alloc _).alloc _⟩
  rw [E1.out, E2.out]
set_option maxHeartbeats 400000 in
theorem wsub_any (a b : Int) (h1 : Wide a) (h2 : Wide b) (h3 : b ≤ a) (w : World) :
    Calls Tryz.prog 209 #[.agg #[.int .u64 (hiW a), .int .u64 (loW a)], .agg #[.int .u64 (hiW b), .int .u64 (loW b)]] w fun e w' => e = .returned (.agg #[.int .u64 (hiW (a - b)), .int .u64 (loW (a - b))]) ∧ Ext w w' := by
  obtain ⟨a1, a2⟩ := hiW_word h1; obtain ⟨b1, b2⟩ := loW_word a; obtain ⟨c1, c2⟩ := hiW_word h2; obtain ⟨d1, d2⟩ := loW_word b
  have k0 : 0 ≤ bor (loW a) (loW b) := by unfold bor; split <;> decide
  have k1 : bor (loW a) (loW b) ≤ 1 := by unfold bor; split <;> decide
  have E1 := Lib.hid (show loW (a - b) = (loW a - loW b) % 18446744073709551616 by have := wide_eq a; have := wide_eq b; simp only [loW]; omega)
  have E2 := Lib.hid (show hiW (a - b) = (hiW a - hiW b - bor (loW a) (loW b)) % 18446744073709551616 by
    have hbc := bor_cases (loW a) (loW b)
    unfold Wide at h1 h2; simp only [loW, hiW] at *; omega)
  clear h1 h2 h3
  go_enter Tryz.func209, Tryz.ntmps209
  go_wp2_with (first | simp only [sub64_0 (loW a) (loW b) b1 d1 d2] | simp only [sub64 (hiW a) (hiW b) _ a1 c1 c2 k0 k1])
  refine bodyPost_ret (v := .agg #[.int .u64 ((hiW a - hiW b - bor (loW a) (loW b)) % 18446744073709551616), .int .u64 ((loW a - loW b) % 18446744073709551616)]) (by simp [results, Tryz.results209, go_sem]) rfl ⟨?_, (((Ext.refl _).alloc _).alloc _).alloc _⟩
  rw [E1.out, E2.out]
theorem product_w (a b : Int) (h1 : 0 ≤ a) (h2 : a < 18446744073709551616) (h3 : 0 ≤ b) (h4 : b < 18446744073709551616) (w : World) :
    Calls Tryz.prog 74 #[.int .u64 a, .int .u64 b] w fun e w' => e = .returned (.agg #[.int .u64 (hiW (a * b)), .int .u64 (loW (a * b))]) ∧ Ext w w' := product_any a b h1 h2 h3 h4 w
end Go.Proofs.YteomcpplajeidaaGreat
