/-
  Joined: the lemmas of this claim that other texts of it use, part 1. Nothing is asked.
-/
import Derived.Test.YtgkdeknfmmgbdaaRows
import Derived.WalkKit
import Derived.WalkSpells
import Derived.WalkLawsBesides
import Derived.Deep.QuietTactic
import Derived.BigQuiet
import Derived.Deep.RegionHeld3
import Derived.Lib.Hide
import Derived.BigRegion
import Derived.Shelf.Spec.BitsCarry
import Derived.Lib.Mul64
import Derived.Deep.DeepCutAuto
import Derived.StillTail
import Derived.Deep.CutBlock
namespace Go.Proofs.Ytgkdeknfmmgbdaa
set_option linter.unusedVariables false
set_option linter.unusedSimpArgs false
open Go.RowKit

/-- Nothing that was there has turned. -/
abbrev Ext (w w' : World) : Prop := Below w.heap.size w w'
section
variable {a w w' : World}
theorem Ext.refl (w : World) : Ext w w := Below.refl _ _
theorem Ext.drew (h : Ext a w) : Ext a w.drew := Below.drew h
theorem Ext.drewN (h : Ext a w) (n : Nat) : Ext a (w.drewN n) := ⟨h.os, h.tape, h.output, h.size, h.block⟩
theorem Ext.alloc (h : Ext a w) (o : Obj) : Ext a (w.alloc o) := Below.alloc h h.size o
theorem Ext.setCell (h : Ext a w) {p : Addr} (hp : a.heap.size ≤ p.block) (u : Value) : Ext a (w.setCell p u) := Below.setCell h hp u
theorem Ext.trans (h : Ext a w) (k : Ext w w') : Ext a w' := Below.trans h (k.mono h.size)
theorem Ext.cells (h : Ext a w) : (∀ b o, b < a.heap.size → w.cell? ⟨b, o, none⟩ = a.cell? ⟨b, o, none⟩) ∧ (∀ b o, b < a.heap.size → w.frozen? ⟨b, o, none⟩ = a.frozen? ⟨b, o, none⟩) :=
  ⟨fun b o hb => Below.cell (p := ⟨b, o, none⟩) h hb, fun b o hb => Below.frozen (p := ⟨b, o, none⟩) h hb⟩
end

end Go.Proofs.Ytgkdeknfmmgbdaa

namespace Go.Proofs.Ytgkdeknfmmgbdaa
set_option linter.unusedVariables false
set_option linter.unusedSimpArgs false
open Go.RowKit

theorem ret_int {k : IntKind} {a b : Int} (h : a = b) : Ending.returned (.int k a) = .returned (.int k b) := by rw [h]

def sizeZ (n : Int) : Int := if n < 0 then -n else n

set_option maxHeartbeats 400000 in
theorem size_any (n : Int) (h1 : -9223372036854775808 ≤ n) (h2 : n ≤ 9223372036854775807) (w : World) :
    Calls Try.prog 101 #[.int .i64 n] w fun e w' => e = .returned (.int .u64 (sizeZ n)) ∧ w = w' := by
  go_enter Try.func101, Try.ntmps101
  go_wp2
  · go_ret
    refine ⟨?_, rfl⟩
    rw [show sizeZ n = -n from if_pos (by assumption)]
    simp [IntKind.wrap_u64]; omega
  · go_ret
    refine ⟨?_, rfl⟩
    have h' : ¬ n < 0 := Int.not_lt.2 (by assumption)
    simp [sizeZ, h']

theorem gcd_step (a b : Nat) (h : 0 < b) : Nat.gcd b (a % b) = Nat.gcd a b := by
  rw [Nat.gcd_comm a b, Nat.gcd_rec b a, Nat.gcd_comm]

set_option maxHeartbeats 400000 in
theorem gcd_any (a b : Nat) (h1 : a < 18446744073709551616) (h2 : b < 18446744073709551616) (w : World) :
    Calls Try.prog 100 #[.int .u64 a, .int .u64 b] w fun e w' => e = .returned (.int .u64 (Nat.gcd a b)) ∧ ∃ n, w' = w.drewN n := by
  go_enter Try.func100, Try.ntmps100
  go_wp2
  go_loopw [0, 1] (fun x y wr => ∃ p q : Nat, p < 18446744073709551616 ∧ q < 18446744073709551616 ∧ x = .int .u64 p ∧ y = .int .u64 q ∧ Nat.gcd p q = Nat.gcd a b ∧ ∃ n, wr = w.drewN n) (fun _ y _ => (intOf y).toNat)
  case atStart => exact ⟨a, b, h1, h2, rfl, rfl, rfl, 0, rfl⟩
  case round =>
    obtain ⟨p, q, hp, hq, rfl, rfl, hg, n, rfl⟩ := hrel
    have Hg := Lib.hid hg; clear hg
    rcases Nat.eq_zero_or_pos q with h0 | hlt
    · subst h0
      go_wp2
      go_ret
      refine ⟨?_, n, rfl⟩
      have := Hg.out
      simp at this
      simp [this]
    · have hne : ¬ q = 0 := by omega
      go_wp2
      go_quiet (fail)
      go_wp2
      go_roundw
      case rel => exact ⟨q, p % q, hq, by have := Nat.mod_lt p hlt; omega, rfl, by simp, by rw [← Hg.out, gcd_step p q hlt], n + nq, by simp⟩
      case measure => simp [intOf]; have := Nat.mod_lt p hlt; omega

theorem gcd_z (a b : Int) (h1 : 0 ≤ a) (h2 : 0 ≤ b) (h3 : a < 18446744073709551616) (h4 : b < 18446744073709551616) (w : World) :
    Calls Try.prog 100 #[.int .u64 a, .int .u64 b] w fun e w' => e = .returned (.int .u64 (Int.gcd a b)) ∧ ∃ n, w' = w.drewN n := by
  obtain ⟨a, rfl⟩ := Int.eq_ofNat_of_zero_le h1
  obtain ⟨b, rfl⟩ := Int.eq_ofNat_of_zero_le h2
  exact gcd_any a b (by omega) (by omega) w

theorem sizeZ_natAbs (n : Int) : sizeZ n = n.natAbs := by unfold sizeZ; split <;> omega

set_option maxHeartbeats 400000 in
theorem Right_no (n d : Int) (hd : d ≤ 0) (w : World) :
    Calls Try.prog 87 #[.agg #[.int .i64 n, .int .i64 d]] w fun e w' => e = .returned (.bool false) ∧ Ext w w' := by
  have hd' : decide ((0:Int) < d) = false := decide_eq_false (by omega)
  go_enter Try.func87, Try.ntmps87
  go_wp2
  go_quiet (fail)
  go_wp2
  go_ret
  exact ⟨rfl, ((Ext.refl _).alloc _).drewN _⟩

set_option maxHeartbeats 400000 in
theorem Right_yes (n d : Int) (h1 : -9223372036854775808 ≤ n) (h2 : n ≤ 9223372036854775807) (hd : 0 < d) (hd2 : d ≤ 9223372036854775807) (w : World) :
    Calls Try.prog 87 #[.agg #[.int .i64 n, .int .i64 d]] w fun e w' => e = .returned (.bool (((sizeZ n).gcd d : Int) == 1)) ∧ Ext w w' := by
  have hs1 : 0 ≤ sizeZ n := by rw [sizeZ_natAbs]; omega
  have hs2 : sizeZ n < 18446744073709551616 := by rw [sizeZ_natAbs]; omega
  go_enter Try.func87, Try.ntmps87
  go_wp2
  go_quiet (first | (go_at_call 101; refine Calls.quiet_of_same ((size_any n h1 h2 _).mono fun _ _ h => ⟨h.1, h.2.symm⟩)) | (go_at_call 100; refine Calls.quiet_of (gcd_z _ _ hs1 (by omega) hs2 (by omega) _)))
  go_wp2
  go_ret
  exact ⟨rfl, ((Ext.refl _).alloc _).drewN _⟩

def rightB (n d : Int) : Bool := decide (0 < d) && ((sizeZ n).gcd d : Int) == 1

theorem Right_any (n d : Int) (h1 : -9223372036854775808 ≤ n) (h2 : n ≤ 9223372036854775807) (hd2 : d ≤ 9223372036854775807) (w : World) :
    Calls Try.prog 87 #[.agg #[.int .i64 n, .int .i64 d]] w fun e w' => e = .returned (.bool (rightB n d)) ∧ Ext w w' := by
  by_cases hd : 0 < d
  · refine (Right_yes n d h1 h2 hd hd2 w).mono fun _ _ h => ⟨?_, h.2⟩
    rw [h.1]; simp [rightB, hd]
  · refine (Right_no n d (by omega) w).mono fun _ _ h => ⟨?_, h.2⟩
    rw [h.1]; simp [rightB, hd]

set_option maxHeartbeats 400000 in
theorem of_any (n d : Int) (h1 : -9223372036854775808 ≤ n) (h2 : n ≤ 9223372036854775807) (h3 : -9223372036854775808 ≤ d) (h4 : d ≤ 9223372036854775807) (w : World) :
    Calls Try.prog 109 #[.agg #[.int .i64 n, .int .i64 d]] w fun e w' => e = .returned (.agg #[.bool (decide (n < 0)), .int .u64 (sizeZ n), .int .u64 (sizeZ d)]) ∧ Ext w w' := by
  go_enter Try.func109, Try.ntmps109
  go_wp2
  go_region_held3 (fun w' => w'.cell? ⟨w.heap.size, 0, none⟩ = some (.int .i64 n) ∧ w'.cell? ⟨w.heap.size, 1, none⟩ = some (.int .i64 d)) (simp [*, World.cell?_alloc_some])
    (first | (go_at_call 101; refine (size_any _ (by omega) (by omega) _).mono ?_; rintro e w' ⟨rfl, rfl⟩))
  go_wp2
  exact bodyPost_ret (v := .agg #[.bool (decide (n < 0)), .int .u64 (sizeZ n), .int .u64 (sizeZ d)]) (by simp [results, Try.results109, go_sem]) rfl ⟨rfl, (((Ext.refl _).alloc _).alloc _).drew⟩

theorem zero_any (w : World) : Calls Try.prog 107 #[] w fun e w' => e = .returned (.agg #[.int .i64 0, .int .i64 1]) ∧ Ext w w' := by
  go_enter Try.func107, Try.ntmps107
  go_wp2
  exact bodyPost_ret (v := .agg #[.int .i64 0, .int .i64 1]) (by simp [results, Try.results107, go_sem]) rfl ⟨rfl, ((Ext.refl _).alloc _)⟩

theorem Of_any (n : Int) (w : World) : Calls Try.prog 72 #[.int .i64 n] w fun e w' => e = .returned (.agg #[.int .i64 n, .int .i64 1]) ∧ Ext w w' := by
  go_enter Try.func72, Try.ntmps72
  go_wp2
  exact bodyPost_ret (v := .agg #[.int .i64 n, .int .i64 1]) (by simp [results, Try.results72, go_sem]) rfl ⟨rfl, ((Ext.refl _).alloc _)⟩

theorem refOf_any (n : Int) (w : World) : Calls Try.prog 29 #[.int .i64 n] w fun e w' => e = .returned (.agg #[.int .i64 n, .int .i64 1]) ∧ Ext w w' := by
  go_enter Try.func29, Try.ntmps29
  go_wp2
  exact bodyPost_ret (v := .agg #[.int .i64 n, .int .i64 1]) (by simp [results, Try.results29, go_sem]) rfl ⟨rfl, ((Ext.refl _).alloc _)⟩

set_option maxHeartbeats 400000 in
theorem both_any (n d m c : Int) (h1 : -9223372036854775808 ≤ n) (h2 : n ≤ 9223372036854775807) (h4 : d ≤ 9223372036854775807) (h5 : -9223372036854775808 ≤ m) (h6 : m ≤ 9223372036854775807) (h8 : c ≤ 9223372036854775807) (w : World) :
    Calls Try.prog 108 #[.agg #[.int .i64 n, .int .i64 d], .agg #[.int .i64 m, .int .i64 c]] w fun e w' => e = .returned (.bool (rightB n d && rightB m c)) ∧ Ext w w' := by
  cases hr : rightB n d
  · have Hr := Lib.hid hr; clear hr
    go_enter Try.func108, Try.ntmps108
    go_wp2_with (go_at_call 87; refine (Right_any n d h1 h2 h4 _).mono ?_; rintro e w1 ⟨rfl, hb⟩; rw [Hr.out])
    go_ret
    exact ⟨rfl, Ext.trans (((Ext.refl _).alloc _).alloc _) hb⟩
  · have Hr := Lib.hid hr; clear hr
    go_enter Try.func108, Try.ntmps108
    go_wp2_with (first
      | (go_at_call 87; (with_reducible refine (Right_any n d h1 h2 h4 _).mono ?_); rintro e w1 ⟨rfl, hb⟩; rw [Hr.out]; obtain ⟨hc, hf⟩ := hb.cells)
      | (go_at_call 87; refine (Right_any m c h5 h6 h8 _).mono ?_; rintro e w2 ⟨rfl, hb2⟩))
    go_ret
    exact ⟨by simp, Ext.trans (Ext.trans (((Ext.refl _).alloc _).alloc _) hb) hb2⟩

theorem isNaN_i (n : Int) (w : World) : Calls Try.prog 117 #[.int .i64 n] w fun e w' => e = .returned (.bool false) ∧ w = w' := by
  go_enter Try.func117, Try.ntmps117
  go_wp2
  go_ret
  exact ⟨by simp, rfl⟩
theorem isNaN_u (n : Int) (w : World) : Calls Try.prog 124 #[.int .u64 n] w fun e w' => e = .returned (.bool false) ∧ w = w' := by
  go_enter Try.func124, Try.ntmps124
  go_wp2
  go_ret
  exact ⟨by simp, rfl⟩

def cmpZ (a b : Int) : Int := if a < b then -1 else if b < a then 1 else 0

set_option maxHeartbeats 400000 in
theorem Compare_i (a b : Int) (w : World) : Calls Try.prog 110 #[.int .i64 a, .int .i64 b] w fun e w' => e = .returned (.int .i64 (cmpZ a b)) ∧ w = w' := by
  go_enter Try.func110, Try.ntmps110
  go_wp2_with (go_at_call 117; refine (isNaN_i _ _).mono ?_; rintro e w' ⟨rfl, rfl⟩)
  all_goals go_ret
  all_goals refine ⟨?_, rfl⟩
  all_goals (refine ret_int ?_; unfold cmpZ; (repeat' split) <;> omega)

set_option maxHeartbeats 400000 in
theorem Compare_u (a b : Int) (w : World) : Calls Try.prog 119 #[.int .u64 a, .int .u64 b] w fun e w' => e = .returned (.int .i64 (cmpZ a b)) ∧ w = w' := by
  go_enter Try.func119, Try.ntmps119
  go_wp2_with (go_at_call 124; refine (isNaN_u _ _).mono ?_; rintro e w' ⟨rfl, rfl⟩)
  all_goals go_ret
  all_goals refine ⟨?_, rfl⟩
  all_goals (refine ret_int ?_; unfold cmpZ; (repeat' split) <;> omega)

namespace M64
theorem maskN (a : Nat) (ha : a < 18446744073709551616) : bits .and .u64 (a : Int) 4294967295 = ((a % 4294967296 : Nat) : Int) := by
  have h := bits_and_u64_nat a 4294967295 ha (by omega)
  have e : a &&& 4294967295 = a % 4294967296 := Nat.and_two_pow_sub_one_eq_mod a 32
  rw [e] at h
  exact h
theorem divN (a : Nat) : (a : Int) / 4294967296 = ((a / 4294967296 : Nat) : Int) := by omega
theorem mulN (a b : Nat) : (a : Int) * (b : Int) = ((a * b : Nat) : Int) := (Int.natCast_mul a b).symm
theorem addN (a b : Nat) : (a : Int) + (b : Int) = ((a + b : Nat) : Int) := (Int.natCast_add a b).symm
theorem wrapN (a : Nat) (ha : a < 18446744073709551616) : IntKind.u64.wrap (a : Int) = (a : Int) := by rw [IntKind.wrap_u64]; omega
theorem wrapM (a : Nat) : IntKind.u64.wrap (a : Int) = ((a % 18446744073709551616 : Nat) : Int) := by rw [IntKind.wrap_u64]; omega
end M64

set_option maxHeartbeats 1000000 in
theorem Mul64_nat (x y : Nat) (hx : x < 18446744073709551616) (hy : y < 18446744073709551616) (w : World) :
    Calls Try.prog 120 #[.int .u64 x, .int .u64 y] w fun e w' => e = .returned (.tuple #[.int .u64 ((x * y / 18446744073709551616 : Nat) : Int), .int .u64 ((x * y % 18446744073709551616 : Nat) : Int)]) ∧ w = w' := by
  obtain ⟨bd, bt, bw, hhi⟩ := Lib.mul64_hi x y hx hy
  have ba := Lib.half_mul_le (a := x / 4294967296) (b := y / 4294967296) (by omega) (by omega)
  have bb := Lib.half_mul_le (a := x / 4294967296) (b := y % 4294967296) (by omega) (by omega)
  have bc := Lib.half_mul_le (a := x % 4294967296) (b := y / 4294967296) (by omega) (by omega)
  have ba' : x / 4294967296 * (y / 4294967296) < 18446744073709551616 := by omega
  have bb' : x / 4294967296 * (y % 4294967296) < 18446744073709551616 := by omega
  have bc' : x % 4294967296 * (y / 4294967296) < 18446744073709551616 := by omega
  have bh1 : x / 4294967296 * (y / 4294967296) + (x / 4294967296 * (y % 4294967296) + x % 4294967296 * (y % 4294967296) / 4294967296) / 4294967296 < 18446744073709551616 := by omega
  have bh : x / 4294967296 * (y / 4294967296) + (x / 4294967296 * (y % 4294967296) + x % 4294967296 * (y % 4294967296) / 4294967296) / 4294967296 + ((x / 4294967296 * (y % 4294967296) + x % 4294967296 * (y % 4294967296) / 4294967296) % 4294967296 + x % 4294967296 * (y / 4294967296)) / 4294967296 < 18446744073709551616 := by omega
  go_enter Try.func120, Try.ntmps120
  go_wp2
  simp only [M64.maskN x hx, M64.maskN y hy, M64.divN, M64.mulN, M64.addN, M64.wrapN _ bd, M64.wrapN _ bb', M64.wrapN _ bt, M64.maskN _ bt, M64.wrapN _ bc', M64.wrapN _ bw, M64.wrapN _ ba', M64.wrapN _ bh1, M64.wrapN _ bh, M64.wrapM (x * y)]
  rw [hhi]
  go_ret2
  exact ⟨rfl, rfl⟩

theorem Mul64_any (a b : Int) (h1 : 0 ≤ a) (h2 : a < 18446744073709551616) (h3 : 0 ≤ b) (h4 : b < 18446744073709551616) (w : World) :
    Calls Try.prog 120 #[.int .u64 a, .int .u64 b] w fun e w' => e = .returned (.tuple #[.int .u64 (a * b / 18446744073709551616), .int .u64 (a * b % 18446744073709551616)]) ∧ w = w' := by
  obtain ⟨x, rfl⟩ := Int.eq_ofNat_of_zero_le h1
  obtain ⟨y, rfl⟩ := Int.eq_ofNat_of_zero_le h3
  refine (Mul64_nat x y (by omega) (by omega) w).mono fun _ _ h => ⟨?_, h.2⟩
  rw [h.1, ← Int.natCast_mul]
  rfl

set_option maxHeartbeats 400000 in
theorem product_any (a b : Int) (h1 : 0 ≤ a) (h2 : a < 18446744073709551616) (h3 : 0 ≤ b) (h4 : b < 18446744073709551616) (w : World) :
    Calls Try.prog 112 #[.int .u64 a, .int .u64 b] w fun e w' => e = .returned (.agg #[.int .u64 (a * b / 18446744073709551616), .int .u64 (a * b % 18446744073709551616)]) ∧ Ext w w' := by
  go_enter Try.func112, Try.ntmps112
  go_wp2_with (go_at_call 120; refine (Mul64_any a b h1 h2 h3 h4 _).mono ?_; rintro e w1 ⟨rfl, rfl⟩)
  exact bodyPost_ret (v := .agg #[.int .u64 (a * b / 18446744073709551616), .int .u64 (a * b % 18446744073709551616)]) (by simp [results, Try.results112, go_sem]) rfl ⟨rfl, ((Ext.refl _).alloc _)⟩

theorem add64 (x y c : Int) (hx : 0 ≤ x) (hy : 0 ≤ y) (hc0 : 0 ≤ c) (hc : c ≤ 1) (w : World) : (callFunc 121 #[.int .u64 x, .int .u64 y, .int .u64 c]).run Try.prog w =
    .ok (.value (.tuple #[.int .u64 ((x + y + c) % 18446744073709551616), .int .u64 ((x + y + c) / 18446744073709551616)])) w := by
  obtain ⟨x, rfl⟩ := Int.eq_ofNat_of_zero_le hx
  obtain ⟨y, rfl⟩ := Int.eq_ofNat_of_zero_le hy
  obtain ⟨c, rfl⟩ := Int.eq_ofNat_of_zero_le hc0
  rw [run_callFunc_extern Try.func121 (by kernel_rfl) (by kernel_rfl) (by kernel_rfl) (e := add64Entry) (by kernel_rfl), run_add64 x y c (by omega) (by omega) (by omega) (by omega)]
  simp only [Result.andThen]

def bor (x y : Int) : Int := if x < y then 1 else 0
theorem bor_cases (x y : Int) : (bor x y = 1 ∧ x < y) ∨ (bor x y = 0 ∧ y ≤ x) := by unfold bor; split <;> omega
theorem sub64 (x y b : Int) (hx : 0 ≤ x) (hy : 0 ≤ y) (hy' : y < 18446744073709551616) (hb0 : 0 ≤ b) (hb : b ≤ 1) (w : World) : (callFunc 122 #[.int .u64 x, .int .u64 y, .int .u64 b]).run Try.prog w =
    .ok (.value (.tuple #[.int .u64 ((x - y - b) % 18446744073709551616), .int .u64 (bor x (y + b))])) w := by
  obtain ⟨x, rfl⟩ := Int.eq_ofNat_of_zero_le hx
  obtain ⟨y, rfl⟩ := Int.eq_ofNat_of_zero_le hy
  obtain ⟨b, rfl⟩ := Int.eq_ofNat_of_zero_le hb0
  have e1 : (((x + 18446744073709551616 - y - b) % 18446744073709551616 : Nat) : Int) = ((x : Int) - y - b) % 18446744073709551616 := by omega
  have e2 : ((if x < y + b then 1 else 0 : Nat) : Int) = bor x (y + b) := by unfold bor; split <;> split <;> omega
  rw [← e1, ← e2]
  rw [run_callFunc_extern Try.func122 (by kernel_rfl) (by kernel_rfl) (by kernel_rfl) (e := sub64Entry) (by kernel_rfl), run_sub64 x y b (by omega)]
  rfl
theorem add64_0 (x y : Int) (hx : 0 ≤ x) (hy : 0 ≤ y) (w : World) : (callFunc 121 #[.int .u64 x, .int .u64 y, .int .u64 0]).run Try.prog w =
    .ok (.value (.tuple #[.int .u64 ((x + y) % 18446744073709551616), .int .u64 ((x + y) / 18446744073709551616)])) w := by
  simpa using add64 x y 0 hx hy (Int.le_refl 0) (by decide) w
theorem sub64_0 (x y : Int) (hx : 0 ≤ x) (hy : 0 ≤ y) (hy' : y < 18446744073709551616) (w : World) : (callFunc 122 #[.int .u64 x, .int .u64 y, .int .u64 0]).run Try.prog w =
    .ok (.value (.tuple #[.int .u64 ((x - y) % 18446744073709551616), .int .u64 (bor x y)])) w := by
  simpa using sub64 x y 0 hx hy hy' (Int.le_refl 0) (by decide) w

/-- A number of 128 bits as two words. -/
def hiW (n : Int) : Int := n / 18446744073709551616
def loW (n : Int) : Int := n % 18446744073709551616
def Word (x : Int) : Prop := 0 ≤ x ∧ x < 18446744073709551616
def Wide (x : Int) : Prop := 0 ≤ x ∧ x < 340282366920938463463374607431768211456
theorem hiW_word {n : Int} (h : Wide n) : Word (hiW n) := by unfold Wide at h; unfold hiW Word; omega
theorem loW_word (n : Int) : Word (loW n) := by unfold loW Word; omega
theorem wide_eq (n : Int) : n = hiW n * 18446744073709551616 + loW n := by unfold hiW loW; omega

set_option maxHeartbeats 400000 in
theorem wadd_any (a b : Int) (h1 : Wide a) (h2 : Wide b) (h3 : Wide (a + b)) (w : World) :
    Calls Try.prog 113 #[.agg #[.int .u64 (hiW a), .int .u64 (loW a)], .agg #[.int .u64 (hiW b), .int .u64 (loW b)]] w fun e w' => e = .returned (.agg #[.int .u64 (hiW (a + b)), .int .u64 (loW (a + b))]) ∧ Ext w w' := by
  obtain ⟨a1, a2⟩ := hiW_word h1; obtain ⟨b1, b2⟩ := loW_word a; obtain ⟨c1, c2⟩ := hiW_word h2; obtain ⟨d1, d2⟩ := loW_word b
  have k0 : 0 ≤ (loW a + loW b) / 18446744073709551616 := by omega
  have k1 : (loW a + loW b) / 18446744073709551616 ≤ 1 := by omega
  have E1 := Lib.hid (show loW (a + b) = (loW a + loW b) % 18446744073709551616 by have := wide_eq a; have := wide_eq b; simp only [loW]; omega)
  have E2 := Lib.hid (show hiW (a + b) = (hiW a + hiW b + (loW a + loW b) / 18446744073709551616) % 18446744073709551616 by
    unfold Wide at h3; simp only [loW, hiW]; omega)
  clear h1 h2 h3
  go_enter Try.func113, Try.ntmps113
  go_wp2_with (first | simp only [add64_0 (loW a) (loW b) b1 d1] | simp only [add64 (hiW a) (hiW b) _ a1 c1 k0 k1])
  refine bodyPost_ret (v := .agg #[.int .u64 ((hiW a + hiW b + (loW a + loW b) / 18446744073709551616) % 18446744073709551616), .int .u64 ((loW a + loW b) % 18446744073709551616)]) (by simp [results, Try.results113, go_sem]) rfl ⟨?_, (((Ext.refl _).alloc _).alloc _).alloc _⟩
  rw [E1.out, E2.out]

set_option maxHeartbeats 400000 in
theorem wsub_any (a b : Int) (h1 : Wide a) (h2 : Wide b) (h3 : b ≤ a) (w : World) :
    Calls Try.prog 114 #[.agg #[.int .u64 (hiW a), .int .u64 (loW a)], .agg #[.int .u64 (hiW b), .int .u64 (loW b)]] w fun e w' => e = .returned (.agg #[.int .u64 (hiW (a - b)), .int .u64 (loW (a - b))]) ∧ Ext w w' := by
  obtain ⟨a1, a2⟩ := hiW_word h1; obtain ⟨b1, b2⟩ := loW_word a; obtain ⟨c1, c2⟩ := hiW_word h2; obtain ⟨d1, d2⟩ := loW_word b
  have k0 : 0 ≤ bor (loW a) (loW b) := by unfold bor; split <;> decide
  have k1 : bor (loW a) (loW b) ≤ 1 := by unfold bor; split <;> decide
  have E1 := Lib.hid (show loW (a - b) = (loW a - loW b) % 18446744073709551616 by have := wide_eq a; have := wide_eq b; simp only [loW]; omega)
  have E2 := Lib.hid (show hiW (a - b) = (hiW a - hiW b - bor (loW a) (loW b)) % 18446744073709551616 by
    have hbc := bor_cases (loW a) (loW b)
    unfold Wide at h1 h2; simp only [loW, hiW] at *; omega)
  clear h1 h2 h3
  go_enter Try.func114, Try.ntmps114
  go_wp2_with (first | simp only [sub64_0 (loW a) (loW b) b1 d1 d2] | simp only [sub64 (hiW a) (hiW b) _ a1 c1 c2 k0 k1])
  refine bodyPost_ret (v := .agg #[.int .u64 ((hiW a - hiW b - bor (loW a) (loW b)) % 18446744073709551616), .int .u64 ((loW a - loW b) % 18446744073709551616)]) (by simp [results, Try.results114, go_sem]) rfl ⟨?_, (((Ext.refl _).alloc _).alloc _).alloc _⟩
  rw [E1.out, E2.out]

theorem product_w (a b : Int) (h1 : 0 ≤ a) (h2 : a < 18446744073709551616) (h3 : 0 ≤ b) (h4 : b < 18446744073709551616) (w : World) :
    Calls Try.prog 112 #[.int .u64 a, .int .u64 b] w fun e w' => e = .returned (.agg #[.int .u64 (hiW (a * b)), .int .u64 (loW (a * b))]) ∧ Ext w w' := product_any a b h1 h2 h3 h4 w

end Go.Proofs.Ytgkdeknfmmgbdaa

namespace Go.Proofs.Ytgkdeknfmmgbdaa
set_option linter.unusedVariables false
set_option linter.unusedSimpArgs false
open Go.RowKit

def ratS (neg : Bool) (n d : Int) : (Int × Int) × Bool :=
  if 9223372036854775808 < n ∨ (n = 9223372036854775808 ∧ neg = false) ∨ 9223372036854775807 < d then ((0, 1), false) else ((if neg then -n else n, d), true)

/-- A number of package api, and a pair of it and a bool, as values. -/
abbrev rv (p : Int × Int) : Value := .agg #[.int .i64 p.1, .int .i64 p.2]
abbrev rbv (p : (Int × Int) × Bool) : Value := .tuple #[rv p.1, .bool p.2]

set_option maxHeartbeats 400000 in
theorem rat_no (neg : Bool) (nh nl dh dl : Int) (h1 : 0 ≤ nh) (h2 : 0 ≤ dh)
    (h : 0 < nh ∨ (nh = 0 ∧ 0 < dh) ∨ (nh = 0 ∧ dh = 0 ∧ 9223372036854775807 < dl) ∨ (nh = 0 ∧ dh = 0 ∧ dl ≤ 9223372036854775807 ∧ 9223372036854775808 < nl) ∨ (nh = 0 ∧ dh = 0 ∧ dl ≤ 9223372036854775807 ∧ nl = 9223372036854775808 ∧ neg = false)) (w : World) :
    Calls Try.prog 116 #[.bool neg, .agg #[.int .u64 nh, .int .u64 nl], .agg #[.int .u64 dh, .int .u64 dl]] w fun e w' => e = .returned (rbv ((0, 1), false)) ∧ Ext w w' := by
  rcases h with h | ⟨rfl, h⟩ | ⟨rfl, rfl, h⟩ | ⟨rfl, rfl, h', h⟩ | ⟨rfl, rfl, h', rfl, rfl⟩
  all_goals
    go_enter Try.func116, Try.ntmps116
    go_wp2_with (go_at_call 107; refine (zero_any _).mono ?_; rintro e w1 ⟨rfl, hb⟩; obtain ⟨hc, hf⟩ := hb.cells)
    exact bodyPost_ret (v := rbv ((0, 1), false)) (by simp [results, Try.results116, go_sem, hc]) rfl ⟨rfl, (by with_reducible repeat (first | exact Ext.refl _ | assumption | apply Ext.drewN | apply Ext.drew | apply Ext.alloc | (refine Ext.setCell ?_ (by simp <;> omega) _) | (refine Ext.trans ?_ (by assumption))))⟩

theorem neg_min : wrap64 (-wrap64 9223372036854775808) = -9223372036854775808 := by simp [wrap64]

set_option maxHeartbeats 400000 in
theorem rat_yes (neg : Bool) (nl dl : Int) (h1 : 0 ≤ nl) (h2 : 0 ≤ dl) (h : dl ≤ 9223372036854775807) (h' : nl < 9223372036854775808 ∨ (nl = 9223372036854775808 ∧ neg = true)) (w : World) :
    Calls Try.prog 116 #[.bool neg, .agg #[.int .u64 0, .int .u64 nl], .agg #[.int .u64 0, .int .u64 dl]] w fun e w' => e = .returned (rbv ((if neg then -nl else nl, dl), true)) ∧ Ext w w' := by
  rcases h' with h' | ⟨rfl, rfl⟩
  · cases neg
    · go_enter Try.func116, Try.ntmps116
      go_wp2
      exact bodyPost_ret (v := rbv ((nl, dl), true)) (by simp [results, Try.results116, go_sem]) rfl ⟨rfl, (by with_reducible repeat (first | exact Ext.refl _ | assumption | apply Ext.drewN | apply Ext.drew | apply Ext.alloc | (refine Ext.setCell ?_ (by simp <;> omega) _) | (refine Ext.trans ?_ (by assumption))))⟩
    · go_enter Try.func116, Try.ntmps116
      go_wp2
      exact bodyPost_ret (v := rbv ((-nl, dl), true)) (by simp [results, Try.results116, go_sem]) rfl ⟨rfl, (by with_reducible repeat (first | exact Ext.refl _ | assumption | apply Ext.drewN | apply Ext.drew | apply Ext.alloc | (refine Ext.setCell ?_ (by simp <;> omega) _) | (refine Ext.trans ?_ (by assumption))))⟩
  · go_enter Try.func116, Try.ntmps116
    go_wp2
    exact bodyPost_ret (v := rbv ((-9223372036854775808, dl), true)) (by simp [results, Try.results116, go_sem, neg_min]) rfl ⟨rfl, (by with_reducible repeat (first | exact Ext.refl _ | assumption | apply Ext.drewN | apply Ext.drew | apply Ext.alloc | (refine Ext.setCell ?_ (by simp <;> omega) _) | (refine Ext.trans ?_ (by assumption))))⟩

theorem rat_any (neg : Bool) (n d : Int) (h1 : Wide n) (h2 : Wide d) (w : World) :
    Calls Try.prog 116 #[.bool neg, .agg #[.int .u64 (hiW n), .int .u64 (loW n)], .agg #[.int .u64 (hiW d), .int .u64 (loW d)]] w fun e w' => e = .returned (rbv (ratS neg n d)) ∧ Ext w w' := by
  have a1 := hiW_word h1; have a2 := loW_word n; have a3 := hiW_word h2; have a4 := loW_word d
  have e1 := wide_eq n; have e2 := wide_eq d
  unfold Word at *
  unfold ratS
  by_cases h : 9223372036854775808 < n ∨ (n = 9223372036854775808 ∧ neg = false) ∨ 9223372036854775807 < d
  · rw [if_pos h]
    refine rat_no neg _ _ _ _ a1.1 a3.1 ?_ w
    by_cases hn : 0 < hiW n
    · exact .inl hn
    by_cases hd : 0 < hiW d
    · exact .inr (.inl ⟨by omega, hd⟩)
    by_cases hl : 9223372036854775807 < loW d
    · exact .inr (.inr (.inl ⟨by omega, by omega, hl⟩))
    rcases h with h | ⟨h, h0⟩ | h
    · exact .inr (.inr (.inr (.inl ⟨by omega, by omega, by omega, by omega⟩)))
    · exact .inr (.inr (.inr (.inr ⟨by omega, by omega, by omega, by omega, h0⟩)))
    · omega
  · rw [if_neg h]
    have f1 : hiW n = 0 := by omega
    have f2 : hiW d = 0 := by omega
    have f3 : loW n = n := by omega
    have f4 : loW d = d := by omega
    rw [f1, f2, f3, f4]
    refine rat_yes neg n d (by omega) (by omega) (by omega) ?_ w
    by_cases hn : n = 9223372036854775808
    · right
      refine ⟨hn, ?_⟩
      cases neg
      · exact absurd (.inr (.inl ⟨hn, rfl⟩)) h
      · rfl
    · left; omega

def orZ (a b : Int) : Int := if a = 0 then b else a

set_option maxHeartbeats 400000 in
theorem Or_any (a b : Int) (w : World) (p : Nat) (h0 : w.cell? ⟨p, 0, none⟩ = some (.int .i64 a)) (h1 : w.cell? ⟨p, 1, none⟩ = some (.int .i64 b)) :
    Calls Try.prog 118 #[.slice (some ⟨p, 0, none⟩) 2 2] w fun e w' => e = .returned (.int .i64 (orZ a b)) ∧ w = w' := by
  by_cases ha : a = 0
  · subst ha
    rw [show orZ 0 b = b from if_pos rfl]
    by_cases hb : b = 0
    · subst hb
      go_enter Try.func118, Try.ntmps118
      go_wp2
      refine wp_loop_rounds 3 ?_
      repeat any_goals (rw [rounds_succ]; go_wp2)
      go_ret
      exact ⟨rfl, rfl⟩
    · go_enter Try.func118, Try.ntmps118
      go_wp2
      refine wp_loop_rounds 3 ?_
      repeat any_goals (rw [rounds_succ]; go_wp2)
      go_ret
      exact ⟨rfl, rfl⟩
  · rw [show orZ a b = a from if_neg ha]
    go_enter Try.func118, Try.ntmps118
    go_wp2
    refine wp_loop_rounds 3 ?_
    repeat any_goals (rw [rounds_succ]; go_wp2)
    go_ret
    exact ⟨rfl, rfl⟩

set_option maxHeartbeats 1000000 in
theorem compare_raw (ah al bh bl : Int) (w : World) :
    Calls Try.prog 111 #[.agg #[.int .u64 ah, .int .u64 al], .agg #[.int .u64 bh, .int .u64 bl]] w fun e w' => e = .returned (.int .i64 (orZ (cmpZ ah bh) (cmpZ al bl))) ∧ Ext w w' := by
  go_enter Try.func111, Try.ntmps111
  go_wp2
  go_region_held3 (fun w' => w'.cell? ⟨w.heap.size, 0, none⟩ = some (.int .u64 ah) ∧ w'.cell? ⟨w.heap.size, 1, none⟩ = some (.int .u64 al) ∧ w'.cell? ⟨w.heap.size + 1, 0, none⟩ = some (.int .u64 bh) ∧ w'.cell? ⟨w.heap.size + 1, 1, none⟩ = some (.int .u64 bl)) (simp [*, World.cell?_alloc_some])
    (first | (go_at_call 119; refine (Compare_u _ _ _).mono ?_; rintro e w' ⟨rfl, rfl⟩) | (go_at_call 118; refine (Or_any (cmpZ ah bh) (cmpZ al bl) _ _ ?_ ?_).mono ?_; (simp [go_sem]); (simp [go_sem]); rintro e w' ⟨rfl, rfl⟩))
  go_wp2
  go_ret
  exact ⟨rfl, (by with_reducible repeat (first | exact Ext.refl _ | assumption | apply Ext.drewN | apply Ext.drew | apply Ext.alloc | (refine Ext.setCell ?_ (by simp <;> omega) _) | (refine Ext.trans ?_ (by assumption))))⟩

theorem compare_any (a b : Int) (h1 : Wide a) (h2 : Wide b) (w : World) :
    Calls Try.prog 111 #[.agg #[.int .u64 (hiW a), .int .u64 (loW a)], .agg #[.int .u64 (hiW b), .int .u64 (loW b)]] w fun e w' => e = .returned (.int .i64 (cmpZ a b)) ∧ Ext w w' := by
  refine (compare_raw _ _ _ _ w).mono fun _ _ h => ⟨?_, h.2⟩
  rw [h.1]
  refine ret_int ?_
  have a1 := hiW_word h1; have a2 := loW_word a; have a3 := hiW_word h2; have a4 := loW_word b
  have e1 := wide_eq a; have e2 := wide_eq b
  unfold Word at *
  unfold orZ cmpZ
  (repeat' split) <;> omega

/-- math/bits.Div64, for a quotient that fits. -/
def Div64Said : Prop := ∀ (hi lo y : Int) (w : World), 0 ≤ hi → hi < y → 0 ≤ lo → lo < 18446744073709551616 → y < 18446744073709551616 →
  Calls Try.prog 123 #[.int .u64 hi, .int .u64 lo, .int .u64 y] w fun e w' => e = .returned (.tuple #[.int .u64 ((hi * 18446744073709551616 + lo) / y), .int .u64 ((hi * 18446744073709551616 + lo) % y)]) ∧ ∃ n, w' = w.drewN n

theorem over_math (n b : Int) (h1 : Wide n) (h3 : 0 < b) :
    hiW n / b = hiW (n / b) ∧ (hiW n % b * 18446744073709551616 + loW n) / b = loW (n / b) ∧ (hiW n % b * 18446744073709551616 + loW n) % b = n % b := by
  have e := wide_eq n
  have l := loW_word n
  obtain ⟨l1, l2⟩ := l
  obtain ⟨a1, a2⟩ := hiW_word h1
  generalize hiW n = H at *
  generalize loW n = L at *
  subst e
  have d1 := Int.emod_add_mul_ediv H b
  have r1 := Int.emod_nonneg H (show b ≠ 0 by omega)
  have r2 := Int.emod_lt_of_pos H h3
  generalize H / b = Q at *
  generalize H % b = R at *
  have e1 : H * 18446744073709551616 + L = (R * 18446744073709551616 + L) + b * (Q * 18446744073709551616) := by
    rw [← d1, Int.add_mul, Int.mul_assoc]; omega
  have e2 : (H * 18446744073709551616 + L) / b = (R * 18446744073709551616 + L) / b + Q * 18446744073709551616 := by
    rw [e1, Int.add_mul_ediv_left _ _ (by omega)]
  have e3 : (H * 18446744073709551616 + L) % b = (R * 18446744073709551616 + L) % b := by
    rw [e1, Int.add_mul_emod_self_left]
  have f1 : 0 ≤ (R * 18446744073709551616 + L) / b := Int.ediv_nonneg (by omega) (by omega)
  have f2 : (R * 18446744073709551616 + L) / b < 18446744073709551616 := by
    rw [Int.ediv_lt_iff_lt_mul h3]
    have : (R + 1) * 18446744073709551616 ≤ b * 18446744073709551616 := Int.mul_le_mul_of_nonneg_right (by omega) (by omega)
    omega
  rw [e2, e3]
  unfold hiW loW
  refine ⟨by omega, by omega, rfl⟩

set_option maxHeartbeats 1000000 in
theorem over_any (hD : Div64Said) (n b : Int) (h1 : Wide n) (h2 : Word b) (h3 : 0 < b) (w : World) :
    Calls Try.prog 115 #[.agg #[.int .u64 (hiW n), .int .u64 (loW n)], .int .u64 b] w fun e w' => e = .returned (.tuple #[.agg #[.int .u64 (hiW (n / b)), .int .u64 (loW (n / b))], .int .u64 (n % b)]) ∧ Ext w w' := by
  have hne : ¬ b = 0 := by omega
  obtain ⟨a1, a2⟩ := hiW_word h1; obtain ⟨a3, a4⟩ := loW_word n
  obtain ⟨k1, k2, k3⟩ := over_math n b h1 h3
  have K1 := Lib.hid k1; have K2 := Lib.hid k2; have K3 := Lib.hid k3; clear k1 k2 k3
  have b1 := Int.emod_nonneg (hiW n) hne
  have b2 := Int.emod_lt_of_pos (hiW n) h3
  obtain ⟨c1, c2⟩ := h2
  have HD := Lib.hid (hD (hiW n % b) (loW n) b); clear hD
  go_enter Try.func115, Try.ntmps115
  go_wp2
  go_quiet (fail)
  go_wp2_with (go_at_call 123; refine (HD.out _ b1 b2 a3 a4 c2).mono ?_; rintro e w' ⟨rfl, nn, rfl⟩; rw [K2.out, K3.out])
  exact bodyPost_ret (v := .tuple #[.agg #[.int .u64 (hiW (n / b)), .int .u64 (loW (n / b))], .int .u64 (n % b)]) (by simp [results, Try.results115, go_sem, K1.out]) rfl ⟨rfl, (by with_reducible repeat (first | exact Ext.refl _ | assumption | apply Ext.drewN | apply Ext.drew | apply Ext.alloc | (refine Ext.setCell ?_ (by simp <;> omega) _) | (refine Ext.trans ?_ (by assumption))))⟩

end Go.Proofs.Ytgkdeknfmmgbdaa

namespace Go.Proofs.Ytgkdeknfmmgbdaa.Rg
set_option linter.unusedVariables false
set_option linter.unusedSimpArgs false
open Go.RowKit Go.Proofs.Ytgkdeknfmmgbdaa

section
variable {P : Program} {ops : Array Oper} {md : Region.Mode} {w0 : World} {M : Nat → Option Obj} {n : Nat}

/-- What an operation, carried out in world w, may come to: the value v, the world grown. -/
def up (P : Program) (w : World) (v : Value) : Result Next → Prop
  | .ok (.value u) w' => w' = w ∧ u = v
  | .ok .skip w' => w' = w ∧ v = undef
  | .ok (.enter f args) w' => w' = w ∧ Calls P f args w (fun e w'' => e = .returned v ∧ Ext w w'')
  | _ => False
theorem up_value {w : World} {v : Value} : up P w v (.ok (.value v) w) := ⟨rfl, rfl⟩
theorem up_enter {w : World} {v : Value} {f : FuncId} {args : Array Value} (h : Calls P f args w (fun e w'' => e = .returned v ∧ Ext w w'')) : up P w v (.ok (.enter f args) w) := ⟨rfl, h⟩

def Y (P : Program) (ops : Array Oper) (w0 : World) (o : Oper) (v : Value) (a : Act) : Prop :=
  (Region.wanted o (yielded ops a.tmps) = true ∧ ∀ w, Ext w0 w → up P w v ((execOp a.eval o).run P w)) ∨ (Region.wanted o (yielded ops a.tmps) = false ∧ v = undef)

theorem Y.of_same {o : Oper} {v : Value} {a a' : Act} (hy : Y P ops w0 o v a) (he : execOp a'.eval o = execOp a.eval o)
    (hw : Region.wanted o (yielded ops a'.tmps) = Region.wanted o (yielded ops a.tmps)) : Y P ops w0 o v a' := by
  unfold Y at *
  rw [he, hw]
  exact hy

abbrev ptr (p : Nat) : Value := .pointer (some ⟨p, 0, none⟩)

/-- It makes the block ob, whatever the frame, and yields a pointer to it. -/
def Makes (P : Program) (o : Oper) (ob : Obj) : Prop :=
  o.guard = none ∧ ∀ (a : Act) (w : World), (execOp a.eval o).run P w = .ok (.value (ptr w.heap.size)) (w.alloc ob)

def stp (P : Program) (ops : Array Oper) (w0 : World) (M : Nat → Option Obj) (i : Nat) (K : Act → List (Nat × Obj) → Prop) (a : Act) (bs : List (Nat × Obj)) : Prop :=
  match ops[i]? with
  | none => False
  | some o => match M i with
    | some ob => Makes P o ob ∧ ∀ p, K (a.put o.dst (ptr p)) ((p, ob) :: bs)
    | none => ∃ v, Y P ops w0 o v a ∧ K (a.put o.dst v) bs

def WX (P : Program) (md : Region.Mode) (ops : Array Oper) (w0 : World) (M : Nat → Option Obj) (n : Nat) (T : Array Bool → Act → List (Nat × Obj) → Prop) : Nat → Array Bool → Act → List (Nat × Obj) → Prop
  | 0, listed, a, bs => T listed a bs
  | f + 1, listed, a, bs => Region.ready md ops listed ≠ [] ∧ ∀ i ∈ Region.ready md ops listed, i < n ∧ stp P ops w0 M i (WX P md ops w0 M n T f (listed.setIfInBounds i true)) a bs

/-- The blocks that were made lie there, apart from each other. -/
def F (w0 : World) (bs : List (Nat × Obj)) (w : World) : Prop :=
  bs.Pairwise (fun x y => x.1 ≠ y.1) ∧ ∀ b ∈ bs, w0.heap.size ≤ b.1 ∧ w.heap[b.1]? = some b.2

theorem lt_of_heap {w : World} {p : Nat} {o : Obj} (h : w.heap[p]? = some o) : p < w.heap.size := by
  rcases Nat.lt_or_ge p w.heap.size with h' | h'
  · exact h'
  · rw [Array.getElem?_eq_none h'] at h; cases h

theorem F.ext {bs : List (Nat × Obj)} {w w' : World} (h : F w0 bs w) (e : Ext w w') : F w0 bs w' :=
  ⟨h.1, fun b hb => ⟨(h.2 b hb).1, (e.block _ (lt_of_heap (h.2 b hb).2)).trans (h.2 b hb).2⟩⟩

theorem F.make {bs : List (Nat × Obj)} {w : World} (h : F w0 bs w) (e : Ext w0 w) (ob : Obj) : F w0 ((w.heap.size, ob) :: bs) (w.alloc ob) := by
  refine ⟨List.pairwise_cons.2 ⟨fun b hb => Nat.ne_of_gt (lt_of_heap (h.2 b hb).2), h.1⟩, fun b hb => ?_⟩
  rcases List.mem_cons.1 hb with rfl | hb
  · refine ⟨e.size, ?_⟩
    show (w.heap.push ob)[w.heap.size]? = _
    simp
  · exact ⟨(h.2 b hb).1, (Below.heap_alloc w ob b.1 (lt_of_heap (h.2 b hb).2)).trans (h.2 b hb).2⟩

theorem Y.wpOp {i : Nat} {o : Oper} {v : Value} {a : Act} {w : World} {K : Act → World → Prop} {Q : Exit → Act → World → Prop} (hi : ops[i]? = some o) (hy : Y P ops w0 o v a) (hw : Ext w0 w)
    (h : ∀ w', Ext w w' → K (a.put o.dst v) w') : wpOp P ops Q i K a w := by
  unfold Go.wpOp
  simp only [hi]
  rcases hy with ⟨hwt, hu⟩ | ⟨hwt, rfl⟩
  · simp only [hwt, if_true]
    refine .inl ?_
    have := hu w hw
    unfold Oper.wp
    generalize (execOp a.eval o).run P w = r at *
    cases r with
    | ok x w' =>
      cases x <;> simp only [up] at this <;> simp only [Oper.upon]
      case value u => obtain ⟨rfl, rfl⟩ := this; exact h _ (Ext.refl _)
      case skip => obtain ⟨rfl, rfl⟩ := this; exact h _ (Ext.refl _)
      case enter f args =>
        obtain ⟨rfl, hc⟩ := this
        exact hc.mono fun e w'' ⟨he, hb⟩ => by subst he; exact h _ hb
    | halt x w' => simp only [up] at this
  · simp only [hwt, Bool.false_eq_true, if_false]
    exact h _ (Ext.refl _)

theorem WX.sound {T : Array Bool → Act → List (Nat × Obj) → Prop} {Q : Exit → Act → World → Prop} {g : Nat}
    (hT : ∀ listed a bs w, T listed a bs → Ext w0 w → F w0 bs w → wpAny P md ops Q g listed a w) :
    ∀ (f : Nat) (listed : Array Bool) (a : Act) (bs : List (Nat × Obj)) (w : World), WX P md ops w0 M n T f listed a bs → Ext w0 w → F w0 bs w → wpAny P md ops Q (f + g) listed a w
  | 0, listed, a, bs, w, h, e, hF => by rw [Nat.zero_add]; exact hT _ _ _ _ h e hF
  | f + 1, listed, a, bs, w, h, e, hF => by
    rw [show f + 1 + g = (f + g) + 1 by omega]
    refine ⟨fun h0 => absurd h0 h.1, fun i hi => ?_⟩
    have hs := (h.2 i hi).2
    unfold stp at hs
    split at hs
    · exact hs.elim
    · rename_i o ho
      split at hs
      · rename_i ob hob
        obtain ⟨⟨hg, hm⟩, hp⟩ := hs
        have hwt : Region.wanted o (yielded ops a.tmps) = true := by simp [Region.wanted, hg]
        unfold wpOp
        simp only [ho, hwt, if_true]
        refine .inl ?_
        unfold Oper.wp
        rw [hm]
        simp only [Oper.upon]
        exact WX.sound hT f _ _ _ _ (hp w.heap.size) (e.alloc ob) (hF.make e ob)
      · obtain ⟨v, hy, hk⟩ := hs
        exact hy.wpOp ho e fun w' hw' => WX.sound hT f _ _ _ _ hk (e.trans hw') (hF.ext hw')

theorem WX_first {T : Array Bool → Act → List (Nat × Obj) → Prop} {i : Nat} {oi : Oper} {v : Value} (hi : ops[i]? = some oi) (hM : M i = none)
    (hsel : ∀ (j : Nat) (o : Oper) cs b, ops[j]? = some o → o.op ≠ .select cs b)
    (hs : Region.sinkB md ops n = true) (hc : Region.chainB md ops n = true) (hn : n < ops.size) (hin : i < n)
    (hdone : ∀ listed a bs, T listed a bs → ∀ j ∈ Region.ready md ops listed, n ≤ j) :
    ∀ (f : Nat) (listed : Array Bool) (a : Act) (bs : List (Nat × Obj)), HeadInv md ops n listed →
      (∀ j oj, ops[j]? = some oj → j ≠ i → listed.getD j true = false → (∀ e ∈ oj.after, Region.binds md e = true → e.on ≠ i) → oi.apart ops oj = true) →
      i ∈ Region.ready md ops listed → Y P ops w0 oi v a →
      WX P md ops w0 M n T f (listed.setIfInBounds i true) (a.put oi.dst v) bs → WX P md ops w0 M n T (f + 1) listed a bs := by
  have self : ∀ (K : Act → List (Nat × Obj) → Prop) (a : Act) (bs : List (Nat × Obj)), Y P ops w0 oi v a → K (a.put oi.dst v) bs → stp P ops w0 M i K a bs := by
    intro K a bs hy hk
    unfold stp
    simp only [hi, hM]
    exact ⟨v, hy, hk⟩
  intro f
  induction f with
  | zero =>
    intro listed a bs inv _ hr hy H
    have hun := (mem_ready.1 hr).1
    refine ⟨fun h => (by rw [h] at hr; cases hr), fun j hj => ?_⟩
    have hjn : j < n := by
      rcases Nat.lt_or_ge j n with h | h
      · exact h
      · exact absurd hj (tail_waits hs hc hn inv _ i rfl hin hun j h)
    refine ⟨hjn, ?_⟩
    by_cases hji : j = i
    · subst hji; exact self _ _ _ hy H
    · have := hdone _ _ _ H j (ready_mono hj hji)
      omega
  | succ f ih =>
    intro listed a bs inv hfree hr hy H
    have hun := (mem_ready.1 hr).1
    refine ⟨fun h => (by rw [h] at hr; cases hr), fun j hj => ?_⟩
    have hjn : j < n := by
      rcases Nat.lt_or_ge j n with h | h
      · exact h
      · exact absurd hj (tail_waits hs hc hn inv _ i rfl hin hun j h)
    refine ⟨hjn, ?_⟩
    by_cases hji : j = i
    · subst hji; exact self _ _ _ hy H
    · have h1 := (H.2 j (ready_mono hj hji)).2
      obtain ⟨hjun, oj, hoj, hall⟩ := mem_ready.1 hj
      have hnot : ∀ e ∈ oj.after, Region.binds md e = true → e.on ≠ i := fun e he hb heq => by
        have h1 := hall e he hb
        rw [heq, getD_both hun] at h1
        cases h1
      have hap := hfree j oj hoj hji hjun hnot
      obtain ⟨k1, k2, k3⟩ := Oper.apart_spec hap
      have keep : ∀ u, Y P ops w0 oi v (a.put oj.dst u) := fun u =>
        hy.of_same (execOp_put oi (fun cs b => hsel i oi cs b hi) a oj.dst u k3) (wanted_put oi a oj.dst u k3)
      have hfree' : ∀ k ok, ops[k]? = some ok → k ≠ i → (listed.setIfInBounds j true).getD k true = false →
          (∀ e ∈ ok.after, Region.binds md e = true → e.on ≠ i) → oi.apart ops ok = true := fun k ok hk hki hun hno => by
        refine hfree k ok hk hki ?_ hno
        by_cases hjk : j = k
        · subst hjk; exact hjun
        · rw [getD_set_ne true hjk] at hun; exact hun
      have inv' := inv.set hj hjn
      have hr' := ready_mono hr (Ne.symm hji)
      have go : ∀ (u : Value) (bs' : List (Nat × Obj)), WX P md ops w0 M n T f ((listed.setIfInBounds i true).setIfInBounds j true) ((a.put oi.dst v).put oj.dst u) bs' →
          WX P md ops w0 M n T (f + 1) (listed.setIfInBounds j true) (a.put oj.dst u) bs' := fun u bs' h => by
        refine ih _ _ _ inv' hfree' hr' (keep u) ?_
        rw [Array.setIfInBounds_comm _ _ hji, ← Act.put_comm a v u k2]
        exact h
      unfold stp at h1 ⊢
      simp only [hoj] at h1 ⊢
      split at h1
      · exact ⟨h1.1, fun p => go _ _ (h1.2 p)⟩
      · obtain ⟨u, hyj, hk⟩ := h1
        exact ⟨u, hyj.of_same (execOp_put oj (fun cs b => hsel j oj cs b hoj) a oi.dst v k1).symm (wanted_put oj a oi.dst v k1).symm, go _ _ hk⟩

/-- The walk in the text's order over the operations that only read. -/
def wk (P : Program) (ops : Array Oper) (w0 : World) (fin : Act → Prop) : List Oper → Act → Prop
  | [], a => fin a
  | o :: rest, a => ∃ v, Y P ops w0 o v a ∧ wk P ops w0 fin rest (a.put o.dst v)

theorem wk_nil {fin : Act → Prop} {a : Act} (h : fin a) : wk P ops w0 fin [] a := h
theorem wk_cons {fin : Act → Prop} {a : Act} {o : Oper} {rest : List Oper} (v : Value) (hw : Region.wanted o (yielded ops a.tmps) = true)
    (h : ∀ w, Ext w0 w → up P w v ((execOp a.eval o).run P w)) (k : wk P ops w0 fin rest (a.put o.dst v)) : wk P ops w0 fin (o :: rest) a := ⟨v, .inl ⟨hw, h⟩, k⟩
theorem wk_step {fin : Act → Prop} {a : Act} {o : Oper} {rest : List Oper} (hw : Region.wanted o (yielded ops a.tmps) = true)
    (h : ∃ v, (∀ w, Ext w0 w → up P w v ((execOp a.eval o).run P w)) ∧ wk P ops w0 fin rest (a.put o.dst v)) : wk P ops w0 fin (o :: rest) a := ⟨h.choose, .inl ⟨hw, h.choose_spec.1⟩, h.choose_spec.2⟩
theorem wk_skip {fin : Act → Prop} {a : Act} {o : Oper} {rest : List Oper} (hw : Region.wanted o (yielded ops a.tmps) = false)
    (k : wk P ops w0 fin rest (a.put o.dst undef)) : wk P ops w0 fin (o :: rest) a := ⟨undef, .inr ⟨hw, rfl⟩, k⟩

def lexX (md : Region.Mode) (ops : Array Oper) (base : Nat → Array Bool → Bool) : Nat → Nat → Array Bool → Bool
  | 0, k, listed => base k listed
  | f + 1, k, listed => (Region.ready md ops listed).contains k && Region.free md ops listed k && lexX md ops base f (k + 1) (listed.setIfInBounds k true)

/-- m allocations (0, 1 or 2) that may come in any order, then g operations in a forced one. -/
def mkB (md : Region.Mode) (ops : Array Oper) (g : Nat) : Nat → Nat → Array Bool → Bool
  | 0, k, listed => Region.seqB md ops g k listed
  | 1, k, listed => decide (Region.ready md ops listed = [k]) && Region.seqB md ops g (k + 1) (listed.setIfInBounds k true)
  | 2, k, listed => decide (Region.ready md ops listed = [k, k + 1]) && decide (Region.ready md ops (listed.setIfInBounds k true) = [k + 1]) && decide (Region.ready md ops (listed.setIfInBounds (k + 1) true) = [k]) &&
      Region.seqB md ops g (k + 2) ((listed.setIfInBounds k true).setIfInBounds (k + 1) true)
  | _, _, _ => false

def allB (md : Region.Mode) (ops : Array Oper) (n1 n : Nat) : Bool :=
  Region.noSelect ops && decide (n < ops.size) && decide (n1 ≤ n) && Region.sinkB md ops n && Region.chainB md ops n && lexX md ops (mkB md ops (ops.size - n) (n - n1)) n1 0 (Array.replicate ops.size false)

theorem WX_lex {T : Array Bool → Act → List (Nat × Obj) → Prop} {fin : Act → Prop} {n1 m : Nat} {base : Nat → Array Bool → Bool} (hsel : Region.noSelect ops = true) (hs : Region.sinkB md ops n = true) (hc : Region.chainB md ops n = true) (hn : n < ops.size) (hn1 : n1 ≤ n)
    (hM : ∀ i, i < n1 → M i = none) (hdone : ∀ listed a bs, T listed a bs → ∀ j ∈ Region.ready md ops listed, n ≤ j)
    (hb : ∀ listed a, HeadInv md ops n listed → base n1 listed = true → fin a → WX P md ops w0 M n T m listed a []) :
    ∀ (l : List Oper) (k : Nat) (listed : Array Bool) (a : Act), (∀ j, j < l.length → l[j]? = ops[k + j]?) → k + l.length = n1 → HeadInv md ops n listed →
    lexX md ops base l.length k listed = true → wk P ops w0 fin l a → WX P md ops w0 M n T (l.length + m) listed a []
  | [], k, listed, a, _, hk, inv, hB, h => by
    have : k = n1 := by simpa using hk
    subst this
    rw [List.length_nil, Nat.zero_add]
    exact hb listed a inv (by simpa [lexX] using hB) h
  | o :: l, k, listed, a, hl, hk, inv, hB, h => by
    have h0 : ops[k]? = some o := by simpa using (hl 0 (by simp)).symm
    simp only [List.length_cons, lexX, Bool.and_eq_true] at hB
    obtain ⟨⟨hr, hf⟩, hB'⟩ := hB
    have hkn : k < n1 := by simp only [List.length_cons] at hk; omega
    have hr' : k ∈ Region.ready md ops listed := by simpa using hr
    obtain ⟨v, hy, hK⟩ := h
    rw [List.length_cons, show l.length + 1 + m = (l.length + m) + 1 by omega]
    exact WX_first h0 (hM k hkn) (Region.noSelect_spec hsel) hs hc hn (by omega) hdone (l.length + m) listed a [] inv (Region.free_spec h0 hf) hr' hy
      (WX_lex hsel hs hc hn hn1 hM hdone hb l (k + 1) _ _ (fun j hj => by have := hl (j + 1) (by simp; omega); simpa [Nat.add_assoc, Nat.add_comm 1 j] using this) (by simp only [List.length_cons] at hk; omega) (inv.set hr' (by omega)) hB' hK)

/-- What is asked behind the reading operations: by how many allocations there are. -/
def fin (P : Program) (ops : Array Oper) (w0 : World) (M : Nat → Option Obj) (Q : Exit → Act → World → Prop) (n1 n : Nat) (tail : List Oper) (a : Act) : Prop :=
  match n - n1 with
  | 0 => ∀ w, Ext w0 w → wpList P ops Q tail a w
  | 1 => ∃ o ob, ops[n1]? = some o ∧ M n1 = some ob ∧ Makes P o ob ∧ ∀ p w, Ext w0 w → w0.heap.size ≤ p → w.heap[p]? = some ob → wpList P ops Q tail (a.put o.dst (ptr p)) w
  | 2 => ∃ o ob o' ob', ops[n1]? = some o ∧ M n1 = some ob ∧ Makes P o ob ∧ ops[n1 + 1]? = some o' ∧ M (n1 + 1) = some ob' ∧ Makes P o' ob' ∧ (∀ d, o.dst = some d → o'.dst ≠ some d) ∧
      ∀ p q w, Ext w0 w → p ≠ q → w0.heap.size ≤ p → w0.heap.size ≤ q → w.heap[p]? = some ob → w.heap[q]? = some ob' → wpList P ops Q tail ((a.put o.dst (ptr p)).put o'.dst (ptr q)) w
  | _ => False

theorem fin0 {Q : Exit → Act → World → Prop} {n1 : Nat} {tail : List Oper} {a : Act} (e : n - n1 = 0) (h : ∀ w, Ext w0 w → wpList P ops Q tail a w) : fin P ops w0 M Q n1 n tail a := by
  unfold fin; rw [e]; exact h
theorem fin1 {Q : Exit → Act → World → Prop} {n1 : Nat} {tail : List Oper} {a : Act} {o : Oper} {ob : Obj} (e : n - n1 = 1) (ho : ops[n1]? = some o) (hM : M n1 = some ob) (hk : Makes P o ob)
    (h : ∀ p w, Ext w0 w → w0.heap.size ≤ p → w.heap[p]? = some ob → wpList P ops Q tail (a.put o.dst (ptr p)) w) : fin P ops w0 M Q n1 n tail a := by
  unfold fin; rw [e]; exact ⟨o, ob, ho, hM, hk, h⟩
theorem fin2 {Q : Exit → Act → World → Prop} {n1 : Nat} {tail : List Oper} {a : Act} {o o' : Oper} {ob ob' : Obj} (e : n - n1 = 2) (ho : ops[n1]? = some o) (hM : M n1 = some ob) (hk : Makes P o ob)
    (ho' : ops[n1 + 1]? = some o') (hM' : M (n1 + 1) = some ob') (hk' : Makes P o' ob') (hne : ∀ d, o.dst = some d → o'.dst ≠ some d)
    (h : ∀ p q w, Ext w0 w → p ≠ q → w0.heap.size ≤ p → w0.heap.size ≤ q → w.heap[p]? = some ob → w.heap[q]? = some ob' → wpList P ops Q tail ((a.put o.dst (ptr p)).put o'.dst (ptr q)) w) : fin P ops w0 M Q n1 n tail a := by
  unfold fin; rw [e]; exact ⟨o, ob, o', ob', ho, hM, hk, ho', hM', hk', hne, h⟩
theorem cells_of {w : World} {p : Nat} {cs : Array Value} {t : TypeId} (h : w.heap[p]? = some (.cells cs t)) : (∀ i, w.cell? ⟨p, i, none⟩ = cs[i]?) ∧ (∀ i, w.frozen? ⟨p, i, none⟩ = false) ∧ p < w.heap.size :=
  ⟨fun i => by simp [World.cell?, h], fun i => by simp [World.frozen?, h], lt_of_heap h⟩

theorem wp_region {id : Nat} {Q : Exit → Act → World → Prop} {a : Act} {w : World} {l : List Oper} (n1 n : Nat) (M : Nat → Option Obj) (hM : ∀ i, i < n1 → M i = none) (hm : P.follows .mixedOrders = true) (hB : allB .any l.toArray n1 n = true)
    (h : wk P l.toArray w (fin P l.toArray w M Q n1 n (l.drop n)) (l.take n1) a) : (Code.region id l.toArray true).wp P Q a w := by
  simp only [allB, Bool.and_eq_true, decide_eq_true_eq] at hB
  obtain ⟨⟨⟨⟨⟨hsel, hn⟩, hn1⟩, hs⟩, hc⟩, hlex⟩ := hB
  have hn' : n < l.length := by simpa using hn
  have htl : (l.take n1).length = n1 := by simp; omega
  have hdl : (l.drop n).length = l.toArray.size - n := by simp
  have inv0 : HeadInv .any l.toArray n (Array.replicate l.toArray.size false) :=
    ⟨by simp, fun j oj _ hl => (by rw [getD_replicate_false] at hl; cases hl), fun t _ ht => getD_in (by simpa using ht) (getD_replicate_false _ _)⟩
  let T : Array Bool → Act → List (Nat × Obj) → Prop := fun listed a bs => Region.seqB .any l.toArray (l.toArray.size - n) n listed = true ∧ ∀ w', Ext w w' → F w bs w' → wpList P l.toArray Q (l.drop n) a w'
  have hdone : ∀ listed a bs, T listed a bs → ∀ j ∈ Region.ready .any l.toArray listed, n ≤ j := fun listed a bs hT => seqB_ready hT.1
  have hb : ∀ listed a, HeadInv .any l.toArray n listed → mkB .any l.toArray (l.toArray.size - n) (n - n1) n1 listed = true → fin P l.toArray w M Q n1 n (l.drop n) a → WX P .any l.toArray w M n T (n - n1) listed a [] := by
    intro listed a _ hB hf
    unfold fin at hf
    split at hf
    · rename_i e
      rw [e] at hB ⊢
      have : n1 = n := by omega
      subst this
      exact ⟨hB, fun w' e1 _ => hf w' e1⟩
    · rename_i e
      rw [e] at hB ⊢
      obtain ⟨o, ob, ho, hMo, hmk, hp⟩ := hf
      simp only [mkB, Bool.and_eq_true, decide_eq_true_eq] at hB
      have e1 : n = n1 + 1 := by omega
      refine ⟨by rw [hB.1]; simp, fun i hi => ?_⟩
      rw [hB.1] at hi
      have hi' : i = n1 := by simpa using hi
      subst hi'
      refine ⟨by omega, ?_⟩
      unfold stp
      simp only [ho, hMo]
      refine ⟨hmk, fun p => ?_⟩
      show T _ _ _
      refine ⟨by rw [e1]; rw [e1] at hB; exact hB.2, fun w' hw hF => ?_⟩
      have := hF.2 (p, ob) (by simp)
      exact hp p w' hw this.1 this.2
    · rename_i e
      rw [e] at hB ⊢
      obtain ⟨o, ob, o', ob', ho, hMo, hmk, ho', hMo', hmk', hne, hp⟩ := hf
      simp only [mkB, Bool.and_eq_true, decide_eq_true_eq] at hB
      have e1 : n = n1 + 2 := by omega
      obtain ⟨⟨⟨b1, b2⟩, b3⟩, b4⟩ := hB
      have fact : ∀ p q w', Ext w w' → (F w [(q, ob'), (p, ob)] w' ∨ F w [(p, ob), (q, ob')] w') → wpList P l.toArray Q (l.drop n) ((a.put o.dst (ptr p)).put o'.dst (ptr q)) w' := by
        intro p q w' hw hF
        rcases hF with hF | hF
        · have h1 := hF.2 (p, ob) (by simp); have h2 := hF.2 (q, ob') (by simp)
          have h3 := hF.1
          simp at h3
          exact hp p q w' hw (fun e => h3 e.symm) h1.1 h2.1 h1.2 h2.2
        · have h1 := hF.2 (p, ob) (by simp); have h2 := hF.2 (q, ob') (by simp)
          have h3 := hF.1
          simp at h3
          exact hp p q w' hw h3 h1.1 h2.1 h1.2 h2.2
      refine ⟨by rw [b1]; simp, fun i hi => ?_⟩
      rw [b1] at hi
      have hi' : i = n1 ∨ i = n1 + 1 := by simpa using hi
      rcases hi' with rfl | rfl
      · refine ⟨by omega, ?_⟩
        unfold stp
        simp only [ho, hMo]
        refine ⟨hmk, fun p => ?_⟩
        refine ⟨by rw [b2]; simp, fun j hj => ?_⟩
        rw [b2] at hj
        have hj' : j = i + 1 := by simpa using hj
        subst hj'
        refine ⟨by omega, ?_⟩
        unfold stp
        simp only [ho', hMo']
        refine ⟨hmk', fun q => ?_⟩
        show T _ _ _
        exact ⟨by rw [e1]; rw [e1] at b4; exact b4, fun w' hw hF => fact p q w' hw (.inl hF)⟩
      · refine ⟨by omega, ?_⟩
        unfold stp
        simp only [ho', hMo']
        refine ⟨hmk', fun q => ?_⟩
        refine ⟨by rw [b3]; simp, fun j hj => ?_⟩
        rw [b3] at hj
        have hj' : j = n1 := by simpa using hj
        subst hj'
        refine ⟨by omega, ?_⟩
        unfold stp
        simp only [ho, hMo]
        refine ⟨hmk, fun p => ?_⟩
        show T _ _ _
        rw [← Act.put_comm a (ptr p) (ptr q) hne, Array.setIfInBounds_comm _ _ (by omega)]
        exact ⟨by rw [e1]; rw [e1] at b4; exact b4, fun w' hw hF => fact p q w' hw (.inr hF)⟩
    · exact hf.elim
  have H := WX_lex (md := .any) (M := M) (T := T) hsel hs hc hn hn1 hM hdone hb (l.take n1) 0 _ a (fun j hj => by
    have hj' : j < n1 := by rw [htl] at hj; exact hj
    simp [hj']) (by simpa using htl) inv0 (by rw [htl]; exact hlex) h
  refine wp_region_any hm ?_
  have := WX.sound (Q := Q) (g := l.toArray.size - n) (fun listed a' bs w' hT hw hF => by
    have := wpAny_of_seq (md := .any) (Q' := Q) (l.drop n) n listed a' w' (fun j => by simp [List.getElem?_drop]) (by rw [hdl]; exact hT.1) (hT.2 w' hw hF)
    rwa [hdl] at this) _ _ _ _ { w with drawn := w.drawn + 1 } H (Ext.drew (Ext.refl w)) ⟨List.Pairwise.nil, fun b hb => by cases hb⟩
  rw [htl, show n1 + (n - n1) + (l.toArray.size - n) = l.toArray.size by omega] at this
  exact this
end
end Go.Proofs.Ytgkdeknfmmgbdaa.Rg

namespace Go.Proofs.Ytgkdeknfmmgbdaa
set_option linter.unusedVariables false
set_option linter.unusedSimpArgs false
open Go.RowKit

/-- What 'sum' computes of two fractions with their signs, step by step. -/
def sumTop (xn : Bool) (n1 d1 : Int) (yn : Bool) (n2 d2 : Int) : Bool × Int :=
  let g : Int := Int.gcd d1 d2
  let a := n1 * (d2 / g)
  let b := n2 * (d1 / g)
  if xn = yn then (xn, a + b) else if b ≤ a then (xn, a - b) else (yn, b - a)
def sumS (xn : Bool) (n1 d1 : Int) (yn : Bool) (n2 d2 : Int) : (Int × Int) × Bool :=
  let g : Int := Int.gcd d1 d2
  let t := sumTop xn n1 d1 yn n2 d2
  if t.2 = 0 then ((0, 1), true)
  else
    let h : Int := Int.gcd g (t.2 % g)
    ratS t.1 (t.2 / h) (d1 / g * (d2 / h))

structure SumOk (n1 d1 n2 d2 : Int) : Prop where
  n1 : 0 ≤ n1 ∧ n1 ≤ 9223372036854775808
  n2 : 0 ≤ n2 ∧ n2 ≤ 9223372036854775808
  d1 : 1 ≤ d1 ∧ d1 ≤ 9223372036854775807
  d2 : 1 ≤ d2 ∧ d2 ≤ 9223372036854775807

theorem mul_le_of {a b A B : Int} (h0 : 0 ≤ a) (h1 : a ≤ A) (h2 : 0 ≤ b) (h3 : b ≤ B) : 0 ≤ a * b ∧ a * b ≤ A * B :=
  ⟨Int.mul_nonneg h0 h2, Int.le_trans (Int.mul_le_mul_of_nonneg_right h1 h2) (Int.mul_le_mul_of_nonneg_left h3 (by omega))⟩
theorem div_le_of {a g : Int} (h0 : 0 ≤ a) (h1 : 1 ≤ g) : 0 ≤ a / g ∧ a / g ≤ a :=
  ⟨Int.ediv_nonneg h0 (by omega), Int.ediv_le_self _ h0⟩

theorem mk148 (d : Option Tmp) (t : TypeId) (p : String) (af : Array Edge) : Rg.Makes Try.prog { dst := d, op := .alloc 148, type := t, pos := p, after := af, guard := none } (.cells #[.int .u64 0, .int .u64 0] 148) :=
  ⟨rfl, fun a w => by go_simp⟩

theorem eql148 (a b c d : Int) (w : World) : (binOp .eql 148 (.agg #[.int .u64 a, .int .u64 b]) (.agg #[.int .u64 c, .int .u64 d])).run Try.prog w = .ok (.bool (a == c && b == d)) w := by
  by_cases h1 : a = c <;> by_cases h2 : b = d <;> simp [go_sem, h1, h2]
theorem eql26 (a b c d : Int) (w : World) : (binOp .eql 26 (.agg #[.int .i64 a, .int .i64 b]) (.agg #[.int .i64 c, .int .i64 d])).run Try.prog w = .ok (.bool (a == c && b == d)) w := by
  by_cases h1 : a = c <;> by_cases h2 : b = d <;> simp [go_sem, h1, h2]

theorem one_le_gcd {a : Int} (b : Int) (h : 1 ≤ a) : (1 : Int) ≤ Int.gcd a b := by
  have := Int.gcd_pos_of_ne_zero_left b (show a ≠ 0 by omega); omega
theorem gcd_le_l {a : Int} (b : Int) (h : 1 ≤ a) : (Int.gcd a b : Int) ≤ a := Int.le_of_dvd (by omega) (Int.gcd_dvd_left _ _)
theorem quo_u64 {a g : Int} (h0 : 0 ≤ a) (h1 : 1 ≤ g) (h2 : a < 18446744073709551616) : IntKind.u64.wrap (a.tdiv g) = a / g := by
  have := div_le_of h0 h1
  rw [Int.tdiv_eq_ediv_of_nonneg h0, IntKind.wrap_u64]
  omega

set_option maxRecDepth 100000 in
set_option maxHeartbeats 2000000 in
theorem sum_walk (hD : Div64Said) (xn : Bool) (n1 d1 : Int) (yn : Bool) (n2 d2 : Int) (h : SumOk n1 d1 n2 d2) (w : World) :
    Calls Try.prog 103 #[.agg #[.bool xn, .int .u64 n1, .int .u64 d1], .agg #[.bool yn, .int .u64 n2, .int .u64 d2]] w fun e w' => e = .returned (rbv (sumS xn n1 d1 yn n2 d2)) ∧ Ext w w' := by
  obtain ⟨⟨a1, a2⟩, ⟨b1, b2⟩, ⟨c1, c2⟩, ⟨e1, e2⟩⟩ := h
  have hg1 : (1 : Int) ≤ Int.gcd d1 d2 := one_le_gcd d2 c1
  have hgd : (Int.gcd d1 d2 : Int) ≤ d1 := gcd_le_l d2 c1
  have hS : sumS xn n1 d1 yn n2 d2 = sumS xn n1 d1 yn n2 d2 := rfl
  conv at hS => rhs; unfold sumS sumTop
  have HS := Lib.hid hS; clear hS
  have hgE : ∃ g : Int, g = Int.gcd d1 d2 := ⟨_, rfl⟩
  obtain ⟨g, hg⟩ := hgE
  rw [← hg] at hg1 hgd
  have hd1 := div_le_of (a := d1) (g := g) (by omega) hg1
  have hd2 := div_le_of (a := d2) (g := g) (by omega) hg1
  have pa := mul_le_of a1 a2 hd2.1 (show d2 / g ≤ 9223372036854775807 by omega)
  have pb := mul_le_of b1 b2 hd1.1 (show d1 / g ≤ 9223372036854775807 by omega)
  have HA : ∃ A, A = n1 * (d2 / g) := ⟨_, rfl⟩
  have HB : ∃ B, B = n2 * (d1 / g) := ⟨_, rfl⟩
  obtain ⟨A, hA⟩ := HA
  obtain ⟨B, hB⟩ := HB
  rw [← hA] at pa
  rw [← hB] at pb
  have hgne : ¬ g = 0 := by omega
  have Hg := Lib.hid hg; have HA := Lib.hid hA; have HB := Lib.hid hB; clear hg hA hB
  go_enter Try.func103, Try.ntmps103
  go_wp2_with (go_at_call 100; refine (gcd_z d1 d2 (by omega) (by omega) (by omega) (by omega) _).mono ?_; rintro e w' ⟨rfl, nn, rfl⟩; rw [← Hg.out])
  go_cut [7, 8] (fun s7 s8 wx => ∃ p q : Nat, s7 = .pointer (some ⟨p, 0, none⟩) ∧ s8 = .pointer (some ⟨q, 0, none⟩) ∧ p < wx.heap.size ∧ q < wx.heap.size ∧ wx.cell? ⟨p, 0, none⟩ = some (.int .u64 (hiW A)) ∧ wx.cell? ⟨p, 1, none⟩ = some (.int .u64 (loW A)) ∧ wx.cell? ⟨q, 0, none⟩ = some (.int .u64 (hiW B)) ∧ wx.cell? ⟨q, 1, none⟩ = some (.int .u64 (loW B)) ∧
    Ext (((w.alloc (.cells #[.bool xn, .int .u64 n1, .int .u64 d1] 143)).alloc (.cells #[.bool yn, .int .u64 n2, .int .u64 d2] 143)).alloc (.cells #[.int .i64 0, .int .i64 0] 26)) wx)
  case first =>
    generalize hW : ((w.alloc (.cells #[.bool xn, .int .u64 n1, .int .u64 d1] 143)).alloc (.cells #[.bool yn, .int .u64 n2, .int .u64 d2] 143)).alloc (.cells #[.int .i64 0, .int .i64 0] 26) = W
    have hs : W.heap.size = w.heap.size + 3 := by rw [← hW]; simp
    have k0 : W.cell? ⟨w.heap.size, 1, none⟩ = some (.int .u64 n1) := by rw [← hW]; simp [go_sem]
    have k1 : W.cell? ⟨w.heap.size, 2, none⟩ = some (.int .u64 d1) := by rw [← hW]; simp [go_sem]
    have k2 : W.cell? ⟨w.heap.size + 1, 1, none⟩ = some (.int .u64 n2) := by rw [← hW]; simp [go_sem]
    have k3 : W.cell? ⟨w.heap.size + 1, 2, none⟩ = some (.int .u64 d2) := by rw [← hW]; simp [go_sem]
    have q1 := quo_u64 (a := d2) (g := g) (by omega) hg1 (by omega)
    have q2 := quo_u64 (a := d1) (g := g) (by omega) hg1 (by omega)
    refine Rg.wp_region 14 16 (fun i => if i = 14 ∨ i = 15 then some (.cells #[.int .u64 0, .int .u64 0] 148) else none) (fun i hi => if_neg (by omega)) (by kernel_rfl) (by kernel_rfl) ?_
    simp only [List.take_succ_cons, List.take_zero, List.drop_succ_cons, List.drop_zero]
    repeat
      (refine Rg.wk_step (by rfl) ?_
       apply Exists.intro
       refine ⟨fun wz hw => ?_, ?_⟩
       · obtain ⟨hc, hf⟩ := hw.cells
         go_simp
         first
           | exact Rg.up_value
           | (apply Rg.up_enter; (with_reducible refine (product_w n1 (d2 / g) a1 (by omega) hd2.1 (by omega) _).mono ?_); rintro e w1 ⟨rfl, hb1⟩; rw [← HA.out]; exact ⟨rfl, hb1⟩)
           | (apply Rg.up_enter; (with_reducible refine (product_w n2 (d1 / g) b1 (by omega) hd1.1 (by omega) _).mono ?_); rintro e w1 ⟨rfl, hb1⟩; rw [← HB.out]; exact ⟨rfl, hb1⟩)
       simp only [Act.put, List.setIfInBounds_toArray, List.set_cons_zero, List.set_cons_succ])
    refine Rg.wk_nil ?_
    refine Rg.fin2 rfl rfl rfl (mk148 _ _ _ _) rfl rfl (mk148 _ _ _ _) (by simp) ?_
    intro p q wx hx hpq hp hq ep eq
    obtain ⟨cp, fp, lp⟩ := Rg.cells_of ep
    obtain ⟨cq, fq, lq⟩ := Rg.cells_of eq
    have hqp : ¬ q = p := fun e => hpq e.symm
    simp only [Act.put, List.setIfInBounds_toArray]
    go_wp2
    go_meet
    case rel =>
      subst hW
      refine ⟨p, q, rfl, rfl, by simpa using lp, by simpa using lq, by go_simp, by go_simp, by go_simp, by go_simp, ?_⟩
      simp at hp hq
      have hx' := Ext.trans (Ext.drewN (Ext.refl _) nn) hx
      exact (((hx'.setCell (by simp; omega) _).setCell (by simp; omega) _).setCell (by simp; omega) _).setCell (by simp; omega) _
  case rest =>
    obtain ⟨wd, rfl⟩ : ∃ wd : World, wd = wc := ⟨_, rfl⟩
    obtain ⟨p, q, rfl, rfl, lp, lq, cp0, cp1, cq0, cq1, hx⟩ := hcut
    obtain ⟨hc, hf⟩ := hx.cells
    have hz := hx.size
    simp at hz
    have z0 : w.heap.size < wd.heap.size := by omega
    have z1 : w.heap.size + 1 < wd.heap.size := by omega
    have m0 : wd.cell? ⟨w.heap.size, 0, none⟩ = some (.bool xn) := by rw [hc _ _ (by simp <;> omega)]; simp [go_sem]
    have m1 : wd.cell? ⟨w.heap.size, 2, none⟩ = some (.int .u64 d1) := by rw [hc _ _ (by simp <;> omega)]; simp [go_sem]
    have m2 : wd.cell? ⟨w.heap.size + 1, 0, none⟩ = some (.bool yn) := by rw [hc _ _ (by simp <;> omega)]; simp [go_sem]
    have m3 : wd.cell? ⟨w.heap.size + 1, 2, none⟩ = some (.int .u64 d2) := by rw [hc _ _ (by simp <;> omega)]; simp [go_sem]
    have z2 : w.heap.size + 1 + 1 < wd.heap.size := by omega
    have m5 : wd.cell? ⟨w.heap.size + 1 + 1, 0, none⟩ = some (.int .i64 0) := by rw [hc _ _ (by simp)]; simp [go_sem]
    have m6 : wd.cell? ⟨w.heap.size + 1 + 1, 1, none⟩ = some (.int .i64 0) := by rw [hc _ _ (by simp)]; simp [go_sem]
    have m7 : wd.frozen? ⟨w.heap.size + 1 + 1, 0, none⟩ = false := by rw [hf _ _ (by simp)]; simp [go_sem]
    have m8 : wd.frozen? ⟨w.heap.size + 1 + 1, 1, none⟩ = false := by rw [hf _ _ (by simp)]; simp [go_sem]
    clear hf hc
    have wA : Wide A := ⟨pa.1, by omega⟩
    have wB : Wide B := ⟨pb.1, by omega⟩
    have wAB : Wide (A + B) := ⟨by omega, by omega⟩
    go_upto_block 0 with (fail)
    go_cut [10] (fun s10 wx => s10 = .bool (sumTop xn n1 d1 yn n2 d2).1 ∧ wx.cell? ⟨wd.heap.size, 0, none⟩ = some (.int .u64 (hiW (sumTop xn n1 d1 yn n2 d2).2)) ∧ wx.cell? ⟨wd.heap.size, 1, none⟩ = some (.int .u64 (loW (sumTop xn n1 d1 yn n2 d2).2)) ∧ wd.heap.size < wx.heap.size ∧
      wx.frozen? ⟨wd.heap.size, 0, none⟩ = false ∧ wx.frozen? ⟨wd.heap.size, 1, none⟩ = false ∧ Ext wd wx)
    case first =>
      by_cases hxy : xn = yn
      · subst hxy
        have E : sumTop xn n1 d1 xn n2 d2 = (xn, A + B) := by unfold sumTop; simp [← Hg.out, HA.out, HB.out]
        have HE := Lib.hid E
        clear E
        go_wp2_with (go_at_call 113; refine (wadd_any A B wA wB wAB _).mono ?_; rintro e w1 ⟨rfl, hb1⟩; obtain ⟨hc1, hf1⟩ := hb1.cells; have hz1 := hb1.size; (try simp at hz1))
        go_meet
        case rel => exact ⟨by rw [HE.out], by rw [HE.out]; go_simp, by rw [HE.out]; go_simp, by (try simp); omega, by go_simp, by go_simp, (by with_reducible repeat (first | exact Ext.refl _ | assumption | apply Ext.drewN | apply Ext.drew | apply Ext.alloc | (refine Ext.setCell ?_ (by simp <;> omega) _) | (refine Ext.trans ?_ (by assumption))))⟩
      · by_cases hBA : B ≤ A
        · have E : sumTop xn n1 d1 yn n2 d2 = (xn, A - B) := by unfold sumTop; simp [hxy, ← Hg.out, ← HA.out, ← HB.out, hBA]
          have HE := Lib.hid E
          clear E
          have hcm : (decide (0 ≤ cmpZ A B)) = true := by unfold cmpZ; split <;> (try split) <;> simp <;> omega
          have hxy' : (xn == yn) = false := by simpa using hxy
          go_wp2_with (first
            | (go_at_call 111; refine (compare_any A B wA wB _).mono ?_; rintro e w1 ⟨rfl, hb1⟩; obtain ⟨hc1, hf1⟩ := hb1.cells; have hz1 := hb1.size; (try simp at hz1); have y0 : wd.heap.size < w1.heap.size := (by omega); have y1 : p < w1.heap.size := (by omega); have y2 : q < w1.heap.size := (by omega))
            | (go_at_call 114; refine (wsub_any A B wA wB hBA _).mono ?_; rintro e w2 ⟨rfl, hb2⟩; obtain ⟨hc2, hf2⟩ := hb2.cells; have hz2 := hb2.size; (try simp at hz2)))
          go_meet
          case rel => exact ⟨by rw [HE.out], by rw [HE.out]; go_simp, by rw [HE.out]; go_simp, by (try simp); omega, by go_simp, by go_simp, (by with_reducible repeat (first | exact Ext.refl _ | assumption | apply Ext.drewN | apply Ext.drew | apply Ext.alloc | (refine Ext.setCell ?_ (by simp <;> omega) _) | (refine Ext.trans ?_ (by assumption))))⟩
        · have E : sumTop xn n1 d1 yn n2 d2 = (yn, B - A) := by unfold sumTop; simp [hxy, ← Hg.out, ← HA.out, ← HB.out, hBA]
          have HE := Lib.hid E
          clear E
          have hAB : A ≤ B := by omega
          have hcm : (decide (0 ≤ cmpZ A B)) = false := by unfold cmpZ; split <;> (try split) <;> simp <;> omega
          have hxy' : (xn == yn) = false := by simpa using hxy
          go_wp2_with (first
            | (go_at_call 111; refine (compare_any A B wA wB _).mono ?_; rintro e w1 ⟨rfl, hb1⟩; obtain ⟨hc1, hf1⟩ := hb1.cells; have hz1 := hb1.size; (try simp at hz1)))
          have n0 : w1.cell? ⟨p, 0, none⟩ = some (.int .u64 (hiW A)) := by rw [hc1 _ _ (by simp; omega)]; go_simp
          have n1 : w1.cell? ⟨p, 1, none⟩ = some (.int .u64 (loW A)) := by rw [hc1 _ _ (by simp; omega)]; go_simp
          have n2 : w1.cell? ⟨q, 0, none⟩ = some (.int .u64 (hiW B)) := by rw [hc1 _ _ (by simp; omega)]; go_simp
          have n3 : w1.cell? ⟨q, 1, none⟩ = some (.int .u64 (loW B)) := by rw [hc1 _ _ (by simp; omega)]; go_simp
          have n4 : w1.cell? ⟨w.heap.size + 1, 0, none⟩ = some (.bool yn) := by rw [hc1 _ _ (by simp; omega)]; go_simp
          have n5 : w1.cell? ⟨wd.heap.size, 0, none⟩ = some (.int .u64 0) := by rw [hc1 _ _ (by simp)]; go_simp
          have n6 : w1.cell? ⟨wd.heap.size, 1, none⟩ = some (.int .u64 0) := by rw [hc1 _ _ (by simp)]; go_simp
          have f5 : w1.frozen? ⟨wd.heap.size, 0, none⟩ = false := by rw [hf1 _ _ (by simp)]; go_simp
          have f6 : w1.frozen? ⟨wd.heap.size, 1, none⟩ = false := by rw [hf1 _ _ (by simp)]; go_simp
          have y0 : wd.heap.size < w1.heap.size := by omega
          have y1 : p < w1.heap.size := by omega
          have y2 : q < w1.heap.size := by omega
          have y3 : w.heap.size + 1 < w1.heap.size := by omega
          have x1 : wd.heap.size ≠ p := by omega
          have x2 : wd.heap.size ≠ q := by omega
          have x3 : wd.heap.size ≠ w.heap.size + 1 := by omega
          have nx : w.heap.size + 1 ≠ wd.heap.size := by omega
          have nx' : ¬ wd.heap.size = w.heap.size + 1 := by omega
          go_region_held3 (fun w' => w'.cell? ⟨p, 0, none⟩ = some (.int .u64 (hiW A)) ∧ w'.cell? ⟨p, 1, none⟩ = some (.int .u64 (loW A)) ∧ w'.cell? ⟨q, 0, none⟩ = some (.int .u64 (hiW B)) ∧ w'.cell? ⟨q, 1, none⟩ = some (.int .u64 (loW B)) ∧ w'.cell? ⟨w.heap.size + 1, 0, none⟩ = some (.bool yn)) (first | exact hS2 | (simp [*, World.cell?_alloc_some, World.cell?_setCell_far]; done))
            (first
              | (go_at_call 114; refine (wsub_any B A wB wA hAB _).mono ?_; rintro e w2 ⟨rfl, hb2⟩; obtain ⟨hc2, hf2⟩ := hb2.cells; have hz2 := hb2.size; have hS2 := And.intro ((hc2 p 0 y1).trans n0) (And.intro ((hc2 p 1 y1).trans n1) (And.intro ((hc2 q 0 y2).trans n2) (And.intro ((hc2 q 1 y2).trans n3) ((hc2 (w.heap.size + 1) 0 y3).trans n4)))); have g5 := (hc2 wd.heap.size 0 y0).trans n5; have g6 := (hc2 wd.heap.size 1 y0).trans n6; have g0 := (hc2 p 0 y1).trans n0; have g1 := (hc2 p 1 y1).trans n1; have g2 := (hc2 q 0 y2).trans n2; have g3 := (hc2 q 1 y2).trans n3; have g4 := (hc2 (w.heap.size + 1) 0 y3).trans n4; have g7 := (hf2 wd.heap.size 0 y0).trans f5; have g8 := (hf2 wd.heap.size 1 y0).trans f6))
          go_wp2
          go_meet
          case rel => exact ⟨by rw [HE.out], by rw [HE.out]; go_simp, by rw [HE.out]; go_simp, by (try simp); (try simp at hz2); omega, by go_simp, by go_simp, (by with_reducible repeat (first | exact Ext.refl _ | assumption | apply Ext.drewN | apply Ext.drew | apply Ext.alloc | (refine Ext.setCell ?_ (by simp <;> omega) _) | (refine Ext.trans ?_ (by assumption))))⟩
    case rest =>
      obtain ⟨rfl, r0, r1, r2, r3, r4, hx2⟩ := hcut
      obtain ⟨hc2, hf2⟩ := hx2.cells
      have k0 := (hc2 w.heap.size 2 z0).trans m1
      have k1 := (hc2 (w.heap.size + 1) 2 z1).trans m3
      have wT : Wide (sumTop xn n1 d1 yn n2 d2).2 := by
        unfold sumTop; simp only [← Hg.out, ← HA.out, ← HB.out]
        unfold Wide at *
        (repeat' split) <;> simp <;> omega
      have HS2 : Hid (sumS xn n1 d1 yn n2 d2 = if (sumTop xn n1 d1 yn n2 d2).2 = 0 then ((0, 1), true) else
          ratS (sumTop xn n1 d1 yn n2 d2).1 ((sumTop xn n1 d1 yn n2 d2).2 / (Int.gcd g ((sumTop xn n1 d1 yn n2 d2).2 % g) : Int)) (d1 / g * (d2 / (Int.gcd g ((sumTop xn n1 d1 yn n2 d2).2 % g) : Int)))) := by
        unfold sumS; rw [← Hg.out]; rfl
      generalize sumTop xn n1 d1 yn n2 d2 = T at *
      obtain ⟨tn, t⟩ := T
      simp only at r0 r1 wT HS2 ⊢
      have v0 := hx2.size
      have v1 : w.heap.size + 1 + 1 < wc.heap.size := by omega
      have v2 : w.heap.size + 1 < wc.heap.size := by omega
      have v3 : w.heap.size < wc.heap.size := by omega
      by_cases ht : t = 0
      · subst ht
        rw [show hiW 0 = 0 by decide] at r0
        rw [show loW 0 = 0 by decide] at r1
        go_wp2_with (go_at_call 107; refine (zero_any _).mono ?_; rintro e w1 ⟨rfl, hb1⟩; obtain ⟨hc1, hf1⟩ := hb1.cells)
        exact bodyPost_ret (v := rbv ((0, 1), true)) (by simp [results, Try.results103, go_sem, hc1, hc2, m5, m6, v1, z2]) rfl ⟨by rw [HS2.out]; simp, (by with_reducible repeat (first | exact Ext.refl _ | assumption | apply Ext.drewN | apply Ext.drew | apply Ext.alloc | (refine Ext.setCell ?_ (by simp <;> omega) _) | (refine Ext.trans ?_ (by assumption))))⟩
      · have hne : (hiW t == 0 && loW t == 0) = false := by
          have := wide_eq t
          cases h1 : (hiW t == 0 && loW t == 0)
          · rfl
          · simp at h1; omega
        have heq : ∀ w, (binOp .eql 148 (.agg #[.int .u64 (hiW t), .int .u64 (loW t)]) (.agg #[.int .u64 0, .int .u64 0])).run Try.prog w = .ok (.bool false) w := fun w => by rw [eql148, hne]
        clear hne
        have ho := over_any hD t g wT ⟨by omega, by omega⟩ (by omega)
        have hr1 := Int.emod_nonneg t (show g ≠ 0 by omega)
        have hr2 := Int.emod_lt_of_pos t (show 0 < g by omega)
        have hh1 : (1 : Int) ≤ Int.gcd g (t % g) := one_le_gcd _ hg1
        have hh2 : (Int.gcd g (t % g) : Int) ≤ g := gcd_le_l _ hg1
        obtain ⟨h, hh⟩ : ∃ h : Int, h = Int.gcd g (t % g) := ⟨_, rfl⟩
        rw [← hh] at hh1 hh2
        have ho2 := over_any hD t h wT ⟨by omega, by omega⟩ (by omega)
        have HH := Lib.hid hh; have HO := Lib.hid ho; have HO2 := Lib.hid ho2
        clear hh ho ho2
        go_wp2_with (first
          | (go_at_call 115; (with_reducible refine (HO.out _).mono ?_); rintro e w1 ⟨rfl, hb1⟩; obtain ⟨hc1, hf1⟩ := hb1.cells; have u0 := hb1.size; have u1 : wd.heap.size < w1.heap.size := (by omega); have u11 : w.heap.size + 1 + 1 < w1.heap.size := (by omega); have u12 : w.heap.size + 1 < w1.heap.size := (by omega); have u13 : w.heap.size < w1.heap.size := (by omega))
          | (go_at_call 100; refine (gcd_z g (t % g) (by omega) hr1 (by omega) (by omega) _).mono ?_; rintro e w' ⟨rfl, nn, rfl⟩; rw [← HH.out])
          | (go_at_call 115; (with_reducible refine (HO2.out _).mono ?_); rintro e w2 ⟨rfl, hb2⟩; obtain ⟨hc3, hf3⟩ := hb2.cells; have u3 := hb2.size; simp at u3; have u31 : wd.heap.size < w2.heap.size := (by omega); have u32 : w.heap.size + 1 + 1 < w2.heap.size := (by omega); have u33 : w.heap.size + 1 < w2.heap.size := (by omega); have u34 : w.heap.size < w2.heap.size := (by omega)))
        have g0 : w2.cell? ⟨wd.heap.size, 0, none⟩ = some (.int .u64 (hiW t)) := by rw [hc3 _ _ (by simp; omega)]; go_simp
        have g1 : w2.cell? ⟨wd.heap.size, 1, none⟩ = some (.int .u64 (loW t)) := by rw [hc3 _ _ (by simp; omega)]; go_simp
        have g2 : w2.cell? ⟨w.heap.size, 2, none⟩ = some (.int .u64 d1) := by rw [hc3 _ _ (by simp; omega)]; go_simp
        have g3 : w2.cell? ⟨w.heap.size + 1, 2, none⟩ = some (.int .u64 d2) := by rw [hc3 _ _ (by simp; omega)]; go_simp
        have g4 : w2.cell? ⟨w.heap.size + 1 + 1, 0, none⟩ = some (.int .i64 0) := by rw [hc3 _ _ (by simp; omega)]; go_simp
        have g5 : w2.cell? ⟨w.heap.size + 1 + 1, 1, none⟩ = some (.int .i64 0) := by rw [hc3 _ _ (by simp; omega)]; go_simp
        have g6 : w2.frozen? ⟨w.heap.size + 1 + 1, 0, none⟩ = false := by rw [hf3 _ _ (by simp; omega)]; go_simp
        have g7 : w2.frozen? ⟨w.heap.size + 1 + 1, 1, none⟩ = false := by rw [hf3 _ _ (by simp; omega)]; go_simp
        clear hc3 hf3 hc1 hf1 hc2 hf2
        have q1 := quo_u64 (a := d1) (g := g) (by omega) hg1 (by omega)
        have q2 := quo_u64 (a := d2) (g := h) (by omega) hh1 (by omega)
        have l1 := div_le_of (a := d2) (g := h) (by omega) hh1
        have l2 := div_le_of (a := t) (g := h) wT.1 hh1
        have wTh : Wide (t / h) := ⟨l2.1, by have := wT.2; omega⟩
        have l3 := mul_le_of hd1.1 (show d1 / g ≤ 9223372036854775807 by omega) l1.1 (show d2 / h ≤ 9223372036854775807 by omega)
        have wD : Wide (d1 / g * (d2 / h)) := ⟨l3.1, by omega⟩
        have x1 : ¬ wd.heap.size = w.heap.size := by omega
        have x2 : ¬ wd.heap.size = w.heap.size + 1 := by omega
        have x3 : ¬ wd.heap.size = w.heap.size + 1 + 1 := by omega
        have hhne : ¬ h = 0 := by omega
        have HP := Lib.hid (product_w (d1 / g) (d2 / h) hd1.1 (by omega) l1.1 (by omega))
        have HR := Lib.hid (rat_any tn (t / h) (d1 / g * (d2 / h)) wTh wD)
        clear wT wTh wD l3
        refine Rg.wp_region 14 14 (fun _ => none) (fun _ _ => rfl) (by kernel_rfl) (by kernel_rfl) ?_
        simp only [List.take_succ_cons, List.take_zero, List.drop_succ_cons, List.drop_zero]
        repeat
          (refine Rg.wk_step (by rfl) ?_
           apply Exists.intro
           refine ⟨fun wz hw => ?_, ?_⟩
           · obtain ⟨hc, hf⟩ := hw.cells
             go_simp
             first
               | exact Rg.up_value
               | (apply Rg.up_enter; (with_reducible refine (HP.out _).mono ?_); rintro e w1 ⟨rfl, hb1⟩; exact ⟨rfl, hb1⟩)
               | (apply Rg.up_enter; (with_reducible refine (HR.out _).mono ?_); rintro e w1 ⟨rfl, hb1⟩; exact ⟨rfl, hb1⟩)
           simp only [Act.put, List.setIfInBounds_toArray, List.set_cons_zero, List.set_cons_succ])
        refine Rg.wk_nil (Rg.fin0 rfl ?_)
        intro wx hx
        obtain ⟨hc, hf⟩ := hx.cells
        have y1 : w.heap.size + 1 + 1 < wx.heap.size := by have := hx.size; simp at this; omega
        go_wp2
        exact bodyPost_ret (v := rbv (ratS tn (t / h) (d1 / g * (d2 / h)))) (by simp [results, Try.results103, go_sem, hc, g4, g5, u32]) rfl ⟨by rw [HS2.out, if_neg ht, HH.out], (by with_reducible repeat (first | exact Ext.refl _ | assumption | apply Ext.drewN | apply Ext.drew | apply Ext.alloc | (refine Ext.setCell ?_ (by simp <;> omega) _) | (refine Ext.trans ?_ (by assumption))))⟩

end Go.Proofs.Ytgkdeknfmmgbdaa

namespace Go.Proofs.Ytgkdeknfmmgbdaa
set_option linter.unusedVariables false
set_option linter.unusedSimpArgs false
open Go.RowKit

/-- What 'times' computes. -/
def timesS (xn : Bool) (n1 d1 : Int) (yn : Bool) (n2 d2 : Int) : (Int × Int) × Bool :=
  if n1 = 0 ∨ n2 = 0 then ((0, 1), true)
  else ratS (!(xn == yn)) (n1 / (Int.gcd n1 d2 : Int) * (n2 / (Int.gcd n2 d1 : Int))) (d1 / (Int.gcd n2 d1 : Int) * (d2 / (Int.gcd n1 d2 : Int)))

set_option maxRecDepth 100000 in
set_option maxHeartbeats 2000000 in
theorem times_zero (xn : Bool) (n1 d1 : Int) (yn : Bool) (n2 d2 : Int) (h : n1 = 0 ∨ (¬ n1 = 0 ∧ n2 = 0)) (w : World) :
    Calls Try.prog 105 #[.agg #[.bool xn, .int .u64 n1, .int .u64 d1], .agg #[.bool yn, .int .u64 n2, .int .u64 d2]] w fun e w' => e = .returned (rbv ((0, 1), true)) ∧ Ext w w' := by
  rcases h with rfl | ⟨h, rfl⟩
  all_goals
    go_enter Try.func105, Try.ntmps105
    go_wp2_with (go_at_call 107; refine (zero_any _).mono ?_; rintro e w1 ⟨rfl, hb⟩; obtain ⟨hc, hf⟩ := hb.cells)
    exact bodyPost_ret (v := rbv ((0, 1), true)) (by simp [results, Try.results105, go_sem, hc]) rfl ⟨rfl, (by with_reducible repeat (first | exact Ext.refl _ | assumption | apply Ext.drewN | apply Ext.drew | apply Ext.alloc | (refine Ext.setCell ?_ (by simp <;> omega) _) | (refine Ext.trans ?_ (by assumption))))⟩

structure TimesOk (n1 d1 n2 d2 : Int) : Prop where
  n1 : 0 ≤ n1 ∧ n1 ≤ 9223372036854775808
  n2 : 0 ≤ n2 ∧ n2 ≤ 9223372036854775808
  d1 : 1 ≤ d1 ∧ d1 ≤ 9223372036854775808
  d2 : 1 ≤ d2 ∧ d2 ≤ 9223372036854775808

set_option maxRecDepth 100000 in
set_option maxHeartbeats 2000000 in
theorem times_walk (xn : Bool) (n1 d1 : Int) (yn : Bool) (n2 d2 : Int) (h : TimesOk n1 d1 n2 d2) (w : World) :
    Calls Try.prog 105 #[.agg #[.bool xn, .int .u64 n1, .int .u64 d1], .agg #[.bool yn, .int .u64 n2, .int .u64 d2]] w fun e w' => e = .returned (rbv (timesS xn n1 d1 yn n2 d2)) ∧ Ext w w' := by
  obtain ⟨⟨a1, a2⟩, ⟨b1, b2⟩, ⟨c1, c2⟩, ⟨e1, e2⟩⟩ := h
  by_cases h0 : n1 = 0
  · rw [show timesS xn n1 d1 yn n2 d2 = ((0, 1), true) from if_pos (.inl h0)]
    exact times_zero xn n1 d1 yn n2 d2 (.inl h0) w
  by_cases h00 : n2 = 0
  · rw [show timesS xn n1 d1 yn n2 d2 = ((0, 1), true) from if_pos (.inr h00)]
    exact times_zero xn n1 d1 yn n2 d2 (.inr ⟨h0, h00⟩) w
  have HS := Lib.hid (show timesS xn n1 d1 yn n2 d2 = _ from if_neg (fun h => h.elim h0 h00))
  have hg1 : (1 : Int) ≤ Int.gcd n1 d2 := one_le_gcd d2 (by omega)
  have hh1 : (1 : Int) ≤ Int.gcd n2 d1 := one_le_gcd d1 (by omega)
  obtain ⟨g, hg⟩ : ∃ g : Int, g = Int.gcd n1 d2 := ⟨_, rfl⟩
  obtain ⟨h, hh⟩ : ∃ h : Int, h = Int.gcd n2 d1 := ⟨_, rfl⟩
  rw [← hg] at hg1
  rw [← hh] at hh1
  have p1 := div_le_of (a := n1) (g := g) a1 hg1
  have p2 := div_le_of (a := n2) (g := h) b1 hh1
  have p3 := div_le_of (a := d1) (g := h) (by omega) hh1
  have p4 := div_le_of (a := d2) (g := g) (by omega) hg1
  have q1 := quo_u64 (a := n1) (g := g) a1 hg1 (by omega)
  have q2 := quo_u64 (a := n2) (g := h) b1 hh1 (by omega)
  have q3 := quo_u64 (a := d1) (g := h) (by omega) hh1 (by omega)
  have q4 := quo_u64 (a := d2) (g := g) (by omega) hg1 (by omega)
  have l1 := mul_le_of p1.1 (show n1 / g ≤ 9223372036854775808 by omega) p2.1 (show n2 / h ≤ 9223372036854775808 by omega)
  have l2 := mul_le_of p3.1 (show d1 / h ≤ 9223372036854775808 by omega) p4.1 (show d2 / g ≤ 9223372036854775808 by omega)
  have w1 : Wide (n1 / g * (n2 / h)) := ⟨l1.1, by omega⟩
  have w2 : Wide (d1 / h * (d2 / g)) := ⟨l2.1, by omega⟩
  have HP := Lib.hid (product_w (n1 / g) (n2 / h) p1.1 (by omega) p2.1 (by omega))
  have HQ := Lib.hid (product_w (d1 / h) (d2 / g) p3.1 (by omega) p4.1 (by omega))
  have HR := Lib.hid (rat_any (!(xn == yn)) (n1 / g * (n2 / h)) (d1 / h * (d2 / g)) w1 w2)
  have Hg := Lib.hid hg; have Hh := Lib.hid hh
  have hgne : ¬ g = 0 := by omega
  have hhne : ¬ h = 0 := by omega
  have HG1 := Lib.hid (fun w => (gcd_z n1 d2 a1 (by omega) (by omega) (by omega) w).mono fun _ _ hx => (⟨hx.1.trans (by rw [hg]), hx.2⟩ : _ = Ending.returned (.int .u64 g) ∧ _))
  have HG2 := Lib.hid (fun w => (gcd_z n2 d1 b1 (by omega) (by omega) (by omega) w).mono fun _ _ hx => (⟨hx.1.trans (by rw [hh]), hx.2⟩ : _ = Ending.returned (.int .u64 h) ∧ _))
  have hb1 : (n1 == 0) = false := by simpa using h0
  have hb2 : (n2 == 0) = false := by simpa using h00
  clear hg hh l1 l2 w1 w2 h0 h00
  go_enter Try.func105, Try.ntmps105
  go_wp2

  go_quiet (first | (with_reducible exact Calls.quiet_of (HG1.out _)) | (with_reducible exact Calls.quiet_of (HG2.out _)))
  go_wp2
  refine Rg.wp_region 26 26 (fun _ => none) (fun _ _ => rfl) (by kernel_rfl) (by kernel_rfl) ?_
  simp only [List.take_succ_cons, List.take_zero, List.drop_succ_cons, List.drop_zero]
  repeat
    (refine Rg.wk_step (by rfl) ?_
     apply Exists.intro
     refine ⟨fun wz hw => ?_, ?_⟩
     · obtain ⟨hc, hf⟩ := hw.cells
       go_simp
       first
         | exact Rg.up_value
         | (apply Rg.up_enter; (with_reducible refine (HP.out _).mono ?_); rintro e w1 ⟨rfl, hb1⟩; exact ⟨rfl, hb1⟩)
         | (apply Rg.up_enter; (with_reducible refine (HQ.out _).mono ?_); rintro e w1 ⟨rfl, hb1⟩; exact ⟨rfl, hb1⟩)
         | (apply Rg.up_enter; (with_reducible refine (HR.out _).mono ?_); rintro e w1 ⟨rfl, hb1⟩; exact ⟨rfl, hb1⟩)
     simp only [Act.put, List.setIfInBounds_toArray, List.set_cons_zero, List.set_cons_succ])
  refine Rg.wk_nil (Rg.fin0 rfl ?_)
  intro wx hx
  obtain ⟨hc, hf⟩ := hx.cells
  have y1 : w.heap.size + 1 + 1 < wx.heap.size := by have := hx.size; simp at this; omega
  go_wp2
  exact bodyPost_ret (v := rbv (ratS (!(xn == yn)) (n1 / g * (n2 / h)) (d1 / h * (d2 / g)))) (by simp [results, Try.results105, go_sem, hc]) rfl ⟨by rw [HS.out, Hg.out, Hh.out], (by with_reducible repeat (first | exact Ext.refl _ | assumption | apply Ext.drewN | apply Ext.drew | apply Ext.alloc | (refine Ext.setCell ?_ (by simp <;> omega) _) | (refine Ext.trans ?_ (by assumption))))⟩

/-- A function of package ratio that 'checked' may be given: f, with what it holds. -/
def RunOk (f : FuncId) (cap : Array Value) (x y : Value) (v : Value) (w : World) : Prop :=
  ∀ w', Ext w w' → Calls Try.prog f (#[x, y] ++ cap) w' fun e w'' => e = .returned v ∧ Ext w' w''

abbrev fv (neg : Bool) (n d : Int) : Value := .agg #[.bool neg, .int .u64 n, .int .u64 d]

set_option maxHeartbeats 1000000 in
theorem checked_no (n d m c : Int) (h1 : -9223372036854775808 ≤ n) (h2 : n ≤ 9223372036854775807) (h4 : d ≤ 9223372036854775807) (h5 : -9223372036854775808 ≤ m) (h6 : m ≤ 9223372036854775807) (h8 : c ≤ 9223372036854775807) (f : FuncId) (cap : Array Value)
    (hr : (rightB n d && rightB m c) = false) (w : World) :
    Calls Try.prog 102 #[.agg #[.int .i64 n, .int .i64 d], .agg #[.int .i64 m, .int .i64 c], .func (.func f) #[] cap] w fun e w' => e = .returned (rbv ((0, 1), false)) ∧ Ext w w' := by
  have Hr := Lib.hid hr; clear hr
  go_enter Try.func102, Try.ntmps102
  go_wp2_with (first
    | (go_at_call 108; refine (both_any n d m c h1 h2 h4 h5 h6 h8 _).mono ?_; rintro e w1 ⟨rfl, hb⟩; rw [Hr.out]; obtain ⟨hc, hf⟩ := hb.cells; have hz := hb.size; simp at hz; have z0 : w.heap.size + 1 + 1 < w1.heap.size := (by omega))
    | (go_at_call 107; refine (zero_any _).mono ?_; rintro e w2 ⟨rfl, hb2⟩; obtain ⟨hc2, hf2⟩ := hb2.cells))
  exact bodyPost_ret (v := rbv ((0, 1), false)) (by simp [results, Try.results102, go_sem, hc, hc2, z0]) rfl ⟨rfl, (by with_reducible repeat (first | exact Ext.refl _ | assumption | apply Ext.drewN | apply Ext.drew | apply Ext.alloc | (refine Ext.setCell ?_ (by simp <;> omega) _) | (refine Ext.trans ?_ (by assumption))))⟩

set_option maxRecDepth 100000 in
set_option maxHeartbeats 1000000 in
theorem checked_yes (n d m c : Int) (h1 : -9223372036854775808 ≤ n) (h2 : n ≤ 9223372036854775807) (h3 : -9223372036854775808 ≤ d) (h4 : d ≤ 9223372036854775807) (h5 : -9223372036854775808 ≤ m) (h6 : m ≤ 9223372036854775807) (h7 : -9223372036854775808 ≤ c) (h8 : c ≤ 9223372036854775807) (f : FuncId) (cap : Array Value)
    (hr : (rightB n d && rightB m c) = true) (w : World) (p : (Int × Int) × Bool) (hF : RunOk f cap (fv (decide (n < 0)) (sizeZ n) (sizeZ d)) (fv (decide (m < 0)) (sizeZ m) (sizeZ c)) (rbv p) w) (hE : ∀ args w, (callFunc f args).run Try.prog w = .ok (.enter f args) w) :
    Calls Try.prog 102 #[.agg #[.int .i64 n, .int .i64 d], .agg #[.int .i64 m, .int .i64 c], .func (.func f) #[] cap] w fun e w' => e = .returned (rbv p) ∧ Ext w w' := by
  have Hr := Lib.hid hr; clear hr
  unfold RunOk at hF
  have HF := Lib.hid hF; clear hF
  have HO1 := Lib.hid (of_any n d h1 h2 h3 h4); have HO2 := Lib.hid (of_any m c h5 h6 h7 h8)
  go_enter Try.func102, Try.ntmps102
  go_wp2_with (go_at_call 108; refine (both_any n d m c h1 h2 h4 h5 h6 h8 _).mono ?_; rintro e w1 ⟨rfl, hb⟩; rw [Hr.out]; obtain ⟨hc, hf⟩ := hb.cells; have hz := hb.size; simp at hz; have z0 : w.heap.size + 1 + 1 < w1.heap.size := (by omega); have z1 : w.heap.size + 1 < w1.heap.size := (by omega); have z2 : w.heap.size < w1.heap.size := (by omega))
  have hww : Ext w w1 := Ext.trans ((((Ext.refl _).alloc _).alloc _).alloc _) hb
  refine Rg.wp_region 8 8 (fun _ => none) (fun _ _ => rfl) (by kernel_rfl) (by kernel_rfl) ?_
  simp only [List.take_succ_cons, List.take_zero, List.drop_succ_cons, List.drop_zero]
  repeat
    (refine Rg.wk_step (by rfl) ?_
     apply Exists.intro
     refine ⟨fun wz hw => ?_, ?_⟩
     · obtain ⟨hc, hf⟩ := hw.cells
       go_simp
       first
         | exact Rg.up_value
         | (apply Rg.up_enter; (with_reducible refine (HO1.out _).mono ?_); rintro e w1 ⟨rfl, hb1⟩; exact ⟨rfl, hb1⟩)
         | (apply Rg.up_enter; (with_reducible refine (HO2.out _).mono ?_); rintro e w1 ⟨rfl, hb1⟩; exact ⟨rfl, hb1⟩)
         | (apply Rg.up_enter; (with_reducible refine (HF.out _ (hww.trans hw)).mono ?_); rintro e w1 ⟨rfl, hb1⟩; exact ⟨rfl, hb1⟩)
     simp only [Act.put, List.setIfInBounds_toArray, List.set_cons_zero, List.set_cons_succ])
  refine Rg.wk_nil (Rg.fin0 rfl ?_)
  intro wx hx
  obtain ⟨hc2, hf2⟩ := hx.cells
  have y1 : w.heap.size + 1 + 1 < wx.heap.size := by have := hx.size; omega
  go_wp2
  exact bodyPost_ret (v := rbv p) (by simp [results, Try.results102, go_sem, hc, hc2, z0]) rfl ⟨rfl, (by with_reducible repeat (first | exact Ext.refl _ | assumption | apply Ext.drewN | apply Ext.drew | apply Ext.alloc | (refine Ext.setCell ?_ (by simp <;> omega) _) | (refine Ext.trans ?_ (by assumption))))⟩

theorem enters103 (args : Array Value) (w : World) : (callFunc 103 args).run Try.prog w = .ok (.enter 103 args) w := by go_simp
theorem enters104 (args : Array Value) (w : World) : (callFunc 104 args).run Try.prog w = .ok (.enter 104 args) w := by go_simp
theorem enters105 (args : Array Value) (w : World) : (callFunc 105 args).run Try.prog w = .ok (.enter 105 args) w := by go_simp
theorem enters106 (args : Array Value) (w : World) : (callFunc 106 args).run Try.prog w = .ok (.enter 106 args) w := by go_simp

end Go.Proofs.Ytgkdeknfmmgbdaa

namespace Go.Proofs.Ytgkdeknfmmgbdaa
set_option linter.unusedVariables false
set_option linter.unusedSimpArgs false
open Go.RowKit

/-- Both fields of a number of package api are ints. -/
structure I2 (a : Int × Int) : Prop where
  n1 : -9223372036854775808 ≤ a.1
  n2 : a.1 ≤ 9223372036854775807
  d1 : -9223372036854775808 ≤ a.2
  d2 : a.2 ≤ 9223372036854775807
abbrev rightP (a : Int × Int) : Bool := rightB a.1 a.2
def addI (a b : Int × Int) : (Int × Int) × Bool :=
  if (rightB a.1 a.2 && rightB b.1 b.2) = true then sumS (decide (a.1 < 0)) (sizeZ a.1) (sizeZ a.2) (decide (b.1 < 0)) (sizeZ b.1) (sizeZ b.2) else ((0, 1), false)
def subI (a b : Int × Int) : (Int × Int) × Bool :=
  if (rightB a.1 a.2 && rightB b.1 b.2) = true then sumS (decide (a.1 < 0)) (sizeZ a.1) (sizeZ a.2) (!decide (b.1 < 0)) (sizeZ b.1) (sizeZ b.2) else ((0, 1), false)
def mulI (a b : Int × Int) : (Int × Int) × Bool :=
  if (rightB a.1 a.2 && rightB b.1 b.2) = true then timesS (decide (a.1 < 0)) (sizeZ a.1) (sizeZ a.2) (decide (b.1 < 0)) (sizeZ b.1) (sizeZ b.2) else ((0, 1), false)
def quoI (a b : Int × Int) : (Int × Int) × Bool :=
  if (rightB a.1 a.2 && rightB b.1 b.2) = true then (if b.1 = 0 then ((0, 1), false) else timesS (decide (a.1 < 0)) (sizeZ a.1) (sizeZ a.2) (decide (b.1 < 0)) (sizeZ b.2) (sizeZ b.1)) else ((0, 1), false)

theorem right_pos {n d : Int} (h : rightB n d = true) : 1 ≤ d := by
  unfold rightB at h; simp at h; omega
theorem sizeZ_pos {d : Int} (h : 1 ≤ d) : sizeZ d = d := by unfold sizeZ; split <;> omega
theorem sizeZ_le {n : Int} (h1 : -9223372036854775808 ≤ n) (h2 : n ≤ 9223372036854775807) : 0 ≤ sizeZ n ∧ sizeZ n ≤ 9223372036854775808 := by unfold sizeZ; split <;> omega
theorem sumOk_of {a b : Int × Int} (ha : I2 a) (hb : I2 b) (hr : (rightB a.1 a.2 && rightB b.1 b.2) = true) : SumOk (sizeZ a.1) (sizeZ a.2) (sizeZ b.1) (sizeZ b.2) := by
  simp only [Bool.and_eq_true] at hr
  have h1 := right_pos hr.1; have h2 := right_pos hr.2
  rw [sizeZ_pos h1, sizeZ_pos h2]
  exact ⟨sizeZ_le ha.n1 ha.n2, sizeZ_le hb.n1 hb.n2, ⟨h1, ha.d2⟩, ⟨h2, hb.d2⟩⟩
theorem SumOk.times {n1 d1 n2 d2 : Int} (h : SumOk n1 d1 n2 d2) : TimesOk n1 d1 n2 d2 := ⟨h.n1, h.n2, ⟨h.d1.1, by have := h.d1.2; omega⟩, ⟨h.d2.1, by have := h.d2.2; omega⟩⟩

set_option maxRecDepth 100000 in
set_option maxHeartbeats 1000000 in
theorem sub1_walk (hD : Div64Said) (xn : Bool) (n1 d1 : Int) (yn : Bool) (n2 d2 : Int) (h : SumOk n1 d1 n2 d2) (w : World) :
    Calls Try.prog 104 #[fv xn n1 d1, fv yn n2 d2] w fun e w' => e = .returned (rbv (sumS xn n1 d1 (!yn) n2 d2)) ∧ Ext w w' := by
  have HS := Lib.hid (sum_walk hD xn n1 d1 (!yn) n2 d2 h)
  go_enter Try.func104, Try.ntmps104
  go_wp2_with (go_at_call 103; (with_reducible refine (HS.out _).mono ?_); rintro e w1 ⟨rfl, hb⟩; obtain ⟨hc, hf⟩ := hb.cells)
  exact bodyPost_ret (v := rbv (sumS xn n1 d1 (!yn) n2 d2)) (by simp [results, Try.results104, go_sem, hc]) rfl ⟨rfl, (by with_reducible repeat (first | exact Ext.refl _ | assumption | apply Ext.drewN | apply Ext.drew | apply Ext.alloc | (refine Ext.setCell ?_ (by simp <;> omega) _) | (refine Ext.trans ?_ (by assumption))))⟩

set_option maxRecDepth 100000 in
set_option maxHeartbeats 1000000 in
theorem quo1_zero (x y : Value) (w : World) (p : Nat) (hp : w.cell? ⟨p, 0, none⟩ = some (.int .i64 0)) (xn : Bool) (n1 d1 : Int) (yn : Bool) (n2 d2 : Int) (hx : x = fv xn n1 d1) (hy : y = fv yn n2 d2) :
    Calls Try.prog 106 #[x, y, .pointer (some ⟨p, 0, none⟩)] w fun e w' => e = .returned (rbv ((0, 1), false)) ∧ Ext w w' := by
  subst hx hy
  have hpl : p < w.heap.size := World.block_lt_of_cell? w _ hp
  have hpl1 : p < w.heap.size + 1 := by omega
  have hpl2 : p < w.heap.size + 1 + 1 := by omega
  go_enter Try.func106, Try.ntmps106
  go_wp2_with (go_at_call 107; refine (zero_any _).mono ?_; rintro e w1 ⟨rfl, hb⟩; obtain ⟨hc, hf⟩ := hb.cells)
  exact bodyPost_ret (v := rbv ((0, 1), false)) (by simp [results, Try.results106, go_sem, hc]) rfl ⟨rfl, (by with_reducible repeat (first | exact Ext.refl _ | assumption | apply Ext.drewN | apply Ext.drew | apply Ext.alloc | (refine Ext.setCell ?_ (by simp <;> omega) _) | (refine Ext.trans ?_ (by assumption))))⟩

set_option maxRecDepth 100000 in
set_option maxHeartbeats 1000000 in
theorem quo1_walk (w : World) (p : Nat) (b : Int) (hp : w.cell? ⟨p, 0, none⟩ = some (.int .i64 b)) (hb0 : ¬ b = 0) (xn : Bool) (n1 d1 : Int) (yn : Bool) (n2 d2 : Int) (h : TimesOk n1 d1 d2 n2) :
    Calls Try.prog 106 #[fv xn n1 d1, fv yn n2 d2, .pointer (some ⟨p, 0, none⟩)] w fun e w' => e = .returned (rbv (timesS xn n1 d1 yn d2 n2)) ∧ Ext w w' := by
  have HT := Lib.hid (times_walk xn n1 d1 yn d2 n2 h)
  have hpl : p < w.heap.size := World.block_lt_of_cell? w _ hp
  have hpl1 : p < w.heap.size + 1 := by omega
  have hpl2 : p < w.heap.size + 1 + 1 := by omega
  go_enter Try.func106, Try.ntmps106
  go_wp2_with (go_at_call 105; (with_reducible refine (HT.out _).mono ?_); rintro e w1 ⟨rfl, hb⟩; obtain ⟨hc, hf⟩ := hb.cells)
  exact bodyPost_ret (v := rbv (timesS xn n1 d1 yn d2 n2)) (by simp [results, Try.results106, go_sem, hc]) rfl ⟨rfl, (by with_reducible repeat (first | exact Ext.refl _ | assumption | apply Ext.drewN | apply Ext.drew | apply Ext.alloc | (refine Ext.setCell ?_ (by simp <;> omega) _) | (refine Ext.trans ?_ (by assumption))))⟩

/-- 'checked', the two ways in one. -/
theorem checked_any (a b : Int × Int) (ha : I2 a) (hb : I2 b) (f : FuncId) (cap : Array Value) (w : World) (p : (Int × Int) × Bool)
    (hF : (rightB a.1 a.2 && rightB b.1 b.2) = true → RunOk f cap (fv (decide (a.1 < 0)) (sizeZ a.1) (sizeZ a.2)) (fv (decide (b.1 < 0)) (sizeZ b.1) (sizeZ b.2)) (rbv p) w)
    (hN : (rightB a.1 a.2 && rightB b.1 b.2) = false → p = ((0, 1), false)) (hE : ∀ args w, (callFunc f args).run Try.prog w = .ok (.enter f args) w) :
    Calls Try.prog 102 #[rv a, rv b, .func (.func f) #[] cap] w fun e w' => e = .returned (rbv p) ∧ Ext w w' := by
  cases hr : (rightB a.1 a.2 && rightB b.1 b.2)
  · rw [hN hr]
    exact checked_no a.1 a.2 b.1 b.2 ha.n1 ha.n2 ha.d2 hb.n1 hb.n2 hb.d2 f cap hr w
  · exact checked_yes a.1 a.2 b.1 b.2 ha.n1 ha.n2 ha.d1 ha.d2 hb.n1 hb.n2 hb.d1 hb.d2 f cap hr w p (hF hr) hE

set_option maxRecDepth 100000 in
set_option maxHeartbeats 1000000 in
theorem Add_any (hD : Div64Said) (a b : Int × Int) (ha : I2 a) (hb : I2 b) (w : World) :
    Calls Try.prog 88 #[rv a, rv b] w fun e w' => e = .returned (rbv (addI a b)) ∧ Ext w w' := by
  have HC := Lib.hid (fun w => checked_any a b ha hb 103 #[] w (addI a b) (fun hr w' _ => by rw [show addI a b = _ from if_pos hr]; exact sum_walk hD _ _ _ _ _ _ (sumOk_of ha hb hr) w') (fun hr => if_neg (by simp [hr])) enters103)
  obtain ⟨a1, a2⟩ := a; obtain ⟨b1, b2⟩ := b
  go_enter Try.func88, Try.ntmps88
  go_wp2_with (go_at_call 102; (with_reducible refine (HC.out _).mono ?_); rintro e w1 ⟨rfl, hb⟩; obtain ⟨hc, hf⟩ := hb.cells)
  exact bodyPost_ret (v := rbv (addI (a1, a2) (b1, b2))) (by simp [results, Try.results88, go_sem, hc]) rfl ⟨rfl, (by with_reducible repeat (first | exact Ext.refl _ | assumption | apply Ext.drewN | apply Ext.drew | apply Ext.alloc | (refine Ext.setCell ?_ (by simp <;> omega) _) | (refine Ext.trans ?_ (by assumption))))⟩

set_option maxRecDepth 100000 in
set_option maxHeartbeats 1000000 in
theorem Sub_any (hD : Div64Said) (a b : Int × Int) (ha : I2 a) (hb : I2 b) (w : World) :
    Calls Try.prog 89 #[rv a, rv b] w fun e w' => e = .returned (rbv (subI a b)) ∧ Ext w w' := by
  have HC := Lib.hid (fun w => checked_any a b ha hb 104 #[] w (subI a b) (fun hr w' _ => by rw [show subI a b = _ from if_pos hr]; exact sub1_walk hD _ _ _ _ _ _ (sumOk_of ha hb hr) w') (fun hr => if_neg (by simp [hr])) enters104)
  obtain ⟨a1, a2⟩ := a; obtain ⟨b1, b2⟩ := b
  go_enter Try.func89, Try.ntmps89
  go_wp2_with (go_at_call 102; (with_reducible refine (HC.out _).mono ?_); rintro e w1 ⟨rfl, hb⟩; obtain ⟨hc, hf⟩ := hb.cells)
  exact bodyPost_ret (v := rbv (subI (a1, a2) (b1, b2))) (by simp [results, Try.results89, go_sem, hc]) rfl ⟨rfl, (by with_reducible repeat (first | exact Ext.refl _ | assumption | apply Ext.drewN | apply Ext.drew | apply Ext.alloc | (refine Ext.setCell ?_ (by simp <;> omega) _) | (refine Ext.trans ?_ (by assumption))))⟩

set_option maxRecDepth 100000 in
set_option maxHeartbeats 1000000 in
theorem Mul_any (a b : Int × Int) (ha : I2 a) (hb : I2 b) (w : World) :
    Calls Try.prog 90 #[rv a, rv b] w fun e w' => e = .returned (rbv (mulI a b)) ∧ Ext w w' := by
  have HC := Lib.hid (fun w => checked_any a b ha hb 105 #[] w (mulI a b) (fun hr w' _ => by rw [show mulI a b = _ from if_pos hr]; exact times_walk _ _ _ _ _ _ (sumOk_of ha hb hr).times w') (fun hr => if_neg (by simp [hr])) enters105)
  obtain ⟨a1, a2⟩ := a; obtain ⟨b1, b2⟩ := b
  go_enter Try.func90, Try.ntmps90
  go_wp2_with (go_at_call 102; (with_reducible refine (HC.out _).mono ?_); rintro e w1 ⟨rfl, hb⟩; obtain ⟨hc, hf⟩ := hb.cells)
  exact bodyPost_ret (v := rbv (mulI (a1, a2) (b1, b2))) (by simp [results, Try.results90, go_sem, hc]) rfl ⟨rfl, (by with_reducible repeat (first | exact Ext.refl _ | assumption | apply Ext.drewN | apply Ext.drew | apply Ext.alloc | (refine Ext.setCell ?_ (by simp <;> omega) _) | (refine Ext.trans ?_ (by assumption))))⟩

theorem quo_run (a b : Int × Int) (ha : I2 a) (hb : I2 b) (hr : (rightB a.1 a.2 && rightB b.1 b.2) = true) (w : World) (p : Nat) (hp : w.cell? ⟨p, 0, none⟩ = some (.int .i64 b.1)) :
    RunOk 106 #[.pointer (some ⟨p, 0, none⟩)] (fv (decide (a.1 < 0)) (sizeZ a.1) (sizeZ a.2)) (fv (decide (b.1 < 0)) (sizeZ b.1) (sizeZ b.2)) (rbv (quoI a b)) w := by
  intro w' hw
  have hpl : p < w.heap.size := World.block_lt_of_cell? w _ hp
  have hpl1 : p < w.heap.size + 1 := by omega
  have hpl2 : p < w.heap.size + 1 + 1 := by omega
  have hp' : w'.cell? ⟨p, 0, none⟩ = some (.int .i64 b.1) := (hw.cells.1 p 0 hpl).trans hp
  rw [show quoI a b = _ from if_pos hr]
  by_cases h0 : b.1 = 0
  · rw [if_pos h0]
    rw [h0] at hp'
    exact quo1_zero _ _ w' p hp' _ _ _ _ _ _ rfl rfl
  · rw [if_neg h0]
    have h := sumOk_of ha hb hr
    have hz : 1 ≤ sizeZ b.1 := by unfold sizeZ; split <;> omega
    exact quo1_walk w' p b.1 hp' h0 _ _ _ _ _ _ ⟨h.n1, ⟨by have := h.d2.1; omega, by have := h.d2.2; omega⟩, ⟨h.d1.1, by have := h.d1.2; omega⟩, ⟨hz, h.n2.2⟩⟩

set_option maxRecDepth 100000 in
set_option maxHeartbeats 1000000 in
theorem Quo_any (a b : Int × Int) (ha : I2 a) (hb : I2 b) (w : World) :
    Calls Try.prog 91 #[rv a, rv b] w fun e w' => e = .returned (rbv (quoI a b)) ∧ Ext w w' := by
  have HC := Lib.hid (fun w p (hp : w.cell? ⟨p, 0, none⟩ = some (.int .i64 b.1)) => checked_any a b ha hb 106 #[.pointer (some ⟨p, 0, none⟩)] w (quoI a b) (fun hr => quo_run a b ha hb hr w p hp) (fun hr => if_neg (by simp [hr])) enters106)
  obtain ⟨a1, a2⟩ := a; obtain ⟨b1, b2⟩ := b
  have hmf : ∀ (fn : Fn) (first cap : Array Value) (w : World), (Instr.makeFunc fn first cap).run Try.prog w = .ok (.func fn first cap) w := fun _ _ _ _ => rfl
  go_enter Try.func91, Try.ntmps91
  go_wp2_with (go_at_call 102; (with_reducible refine (HC.out _ _ ?_).mono ?_); (go_simp); rintro e w1 ⟨rfl, hb⟩; obtain ⟨hc, hf⟩ := hb.cells)
  exact bodyPost_ret (v := rbv (quoI (a1, a2) (b1, b2))) (by simp [results, Try.results91, go_sem, hc]) rfl ⟨rfl, (by with_reducible repeat (first | exact Ext.refl _ | assumption | apply Ext.drewN | apply Ext.drew | apply Ext.alloc | (refine Ext.setCell ?_ (by simp <;> omega) _) | (refine Ext.trans ?_ (by assumption))))⟩

end Go.Proofs.Ytgkdeknfmmgbdaa

namespace Go.Proofs.Ytgkdeknfmmgbdaa
set_option linter.unusedVariables false
set_option linter.unusedSimpArgs false
open Go.RowKit

theorem mk143 (d : Option Tmp) (t : TypeId) (p : String) (af : Array Edge) : Rg.Makes Try.prog { dst := d, op := .alloc 143, type := t, pos := p, after := af, guard := none } (.cells #[.bool false, .int .u64 0, .int .u64 0] 143) :=
  ⟨rfl, fun a w => by go_simp⟩

def cmpI (a b : Int × Int) : Int :=
  if (rightB a.1 a.2 && rightB b.1 b.2) = true then
    (if decide (a.1 < 0) = decide (b.1 < 0) then (if a.1 < 0 then -cmpZ (sizeZ a.1 * sizeZ b.2) (sizeZ b.1 * sizeZ a.2) else cmpZ (sizeZ a.1 * sizeZ b.2) (sizeZ b.1 * sizeZ a.2))
    else cmpZ a.1 b.1)
  else 0

theorem cmpZ_bd (a b : Int) : -1 ≤ cmpZ a b ∧ cmpZ a b ≤ 1 := by unfold cmpZ; split <;> (try split) <;> omega

set_option maxHeartbeats 1000000 in
theorem Cmp_no (a1 a2 b1 b2 : Int) (ha : I2 (a1, a2)) (hb : I2 (b1, b2)) (hr : (rightB a1 a2 && rightB b1 b2) = false) (w : World) :
    Calls Try.prog 94 #[.agg #[.int .i64 a1, .int .i64 a2], .agg #[.int .i64 b1, .int .i64 b2]] w fun e w' => e = .returned (.int .i64 0) ∧ Ext w w' := by
  have Hr := Lib.hid hr; clear hr
  obtain ⟨h1, h2, h3, h4⟩ := ha
  obtain ⟨h5, h6, h7, h8⟩ := hb
  go_enter Try.func94, Try.ntmps94
  go_wp2_with (go_at_call 108; refine (both_any a1 a2 b1 b2 h1 h2 h4 h5 h6 h8 _).mono ?_; rintro e w1 ⟨rfl, hb⟩; rw [Hr.out])
  go_ret
  exact ⟨rfl, (by with_reducible repeat (first | exact Ext.refl _ | assumption | apply Ext.drewN | apply Ext.drew | apply Ext.alloc | (refine Ext.setCell ?_ (by simp <;> omega) _) | (refine Ext.trans ?_ (by assumption))))⟩

set_option maxRecDepth 100000 in
set_option maxHeartbeats 2000000 in
theorem Cmp_yes (a1 a2 b1 b2 : Int) (ha : I2 (a1, a2)) (hb : I2 (b1, b2)) (hr : (rightB a1 a2 && rightB b1 b2) = true) (hS : SumOk (sizeZ a1) (sizeZ a2) (sizeZ b1) (sizeZ b2)) (k : Int)
    (hk : (¬ decide (a1 < 0) = decide (b1 < 0) ∧ k = cmpZ a1 b1) ∨ (decide (a1 < 0) = decide (b1 < 0) ∧ k = cmpZ (sizeZ a1 * sizeZ b2) (sizeZ b1 * sizeZ a2) ∧ decide (a1 < 0) = false) ∨ (decide (a1 < 0) = decide (b1 < 0) ∧ k = -cmpZ (sizeZ a1 * sizeZ b2) (sizeZ b1 * sizeZ a2) ∧ decide (a1 < 0) = true)) (w : World) :
    Calls Try.prog 94 #[.agg #[.int .i64 a1, .int .i64 a2], .agg #[.int .i64 b1, .int .i64 b2]] w fun e w' => e = .returned (.int .i64 k) ∧ Ext w w' := by
  have Hr := Lib.hid hr; clear hr
  obtain ⟨h1, h2, h3, h4⟩ := ha
  obtain ⟨h5, h6, h7, h8⟩ := hb
  obtain ⟨⟨s1, s2⟩, ⟨s3, s4⟩, ⟨s5, s6⟩, ⟨s7, s8⟩⟩ := hS
  have HO1 := Lib.hid (of_any a1 a2 h1 h2 h3 h4); have HO2 := Lib.hid (of_any b1 b2 h5 h6 h7 h8)
  have l1 := mul_le_of s1 s2 (show 0 ≤ sizeZ b2 by omega) s8
  have l2 := mul_le_of s3 s4 (show 0 ≤ sizeZ a2 by omega) s6
  have w1 : Wide (sizeZ a1 * sizeZ b2) := ⟨l1.1, by omega⟩
  have w2 : Wide (sizeZ b1 * sizeZ a2) := ⟨l2.1, by omega⟩
  have HP := Lib.hid (product_w (sizeZ a1) (sizeZ b2) s1 (by omega) (by omega) (by omega))
  have HQ := Lib.hid (product_w (sizeZ b1) (sizeZ a2) s3 (by omega) (by omega) (by omega))
  have HC := Lib.hid (compare_any _ _ w1 w2)
  have HK := Lib.hid hk; clear hk
  have cb := cmpZ_bd (sizeZ a1 * sizeZ b2) (sizeZ b1 * sizeZ a2)
  clear l1 l2 w1 w2
  generalize hx : decide (a1 < 0) = x at *
  generalize hy : decide (b1 < 0) = y at *
  have Hx := Lib.hid hx; have Hy := Lib.hid hy; clear hx hy
  go_enter Try.func94, Try.ntmps94
  go_wp2_with (go_at_call 108; refine (both_any a1 a2 b1 b2 h1 h2 h4 h5 h6 h8 _).mono ?_; rintro e w1 ⟨rfl, hb⟩; rw [Hr.out]; obtain ⟨hc, hf⟩ := hb.cells; have hz := hb.size; simp at hz; have z1 : w.heap.size + 1 < w1.heap.size := (by omega); have z2 : w.heap.size < w1.heap.size := (by omega))
  refine Rg.wp_region 4 6 (fun i => if i = 4 then some (.cells #[.bool false, .int .u64 0, .int .u64 0] 143) else if i = 5 then some (.cells #[.bool false, .int .u64 0, .int .u64 0] 143) else none) (fun i hi => by rw [if_neg (by omega)]; rw [if_neg (by omega)]) (by kernel_rfl) (by kernel_rfl) ?_
  simp only [List.take_succ_cons, List.take_zero, List.drop_succ_cons, List.drop_zero]
  repeat
    (refine Rg.wk_step (by rfl) ?_
     apply Exists.intro
     refine ⟨fun wz hw => ?_, ?_⟩
     · obtain ⟨hc, hf⟩ := hw.cells
       go_simp
       first
         | exact Rg.up_value
         | (apply Rg.up_enter; (with_reducible refine (HO1.out _).mono ?_); rintro e w1 ⟨rfl, hb1⟩; exact ⟨rfl, hb1⟩)
         | (apply Rg.up_enter; (with_reducible refine (HO2.out _).mono ?_); rintro e w1 ⟨rfl, hb1⟩; exact ⟨rfl, hb1⟩)
     simp only [Act.put, List.setIfInBounds_toArray, List.set_cons_zero, List.set_cons_succ])
  refine Rg.wk_nil (Rg.fin2 rfl rfl rfl (mk143 _ _ _ _) rfl rfl (mk143 _ _ _ _) (by simp) ?_)
  intro p q wx hx hpq hp hq ep eq
  obtain ⟨cp, fp, lp⟩ := Rg.cells_of ep
  obtain ⟨cq, fq, lq⟩ := Rg.cells_of eq
  obtain ⟨hcx, hfx⟩ := hx.cells
  have hqp : ¬ q = p := fun e => hpq e.symm
  simp only [Act.put, List.setIfInBounds_toArray]
  have v1 : ¬ p = w.heap.size := by omega
  have v2 : ¬ p = w.heap.size + 1 := by omega
  have v3 : ¬ q = w.heap.size := by omega
  have v4 : ¬ q = w.heap.size + 1 := by omega
  rcases HK.out with ⟨hxy, rfl⟩ | ⟨rfl, rfl, rfl⟩ | ⟨rfl, rfl, rfl⟩
  · have hxy' : (x == y) = false := by simpa using hxy
    clear hxy HK
    go_wp2_with (go_at_call 110; refine (Compare_i _ _ _).mono ?_; rintro e w' ⟨rfl, rfl⟩)
    go_ret
    exact ⟨rfl, (by with_reducible repeat (first | exact Ext.refl _ | assumption | apply Ext.drewN | apply Ext.drew | apply Ext.alloc | (refine Ext.setCell ?_ (by simp <;> omega) _) | (refine Ext.trans ?_ (by assumption))))⟩
  · clear HK
    go_wp2_with (fail)
    refine Rg.wp_region 11 11 (fun _ => none) (fun _ _ => rfl) (by kernel_rfl) (by kernel_rfl) ?_
    simp only [List.take_succ_cons, List.take_zero, List.drop_succ_cons, List.drop_zero]
    repeat
      (refine Rg.wk_step (by rfl) ?_
       apply Exists.intro
       refine ⟨fun wz hw => ?_, ?_⟩
       · obtain ⟨hc, hf⟩ := hw.cells
         go_simp
         first
           | exact Rg.up_value
           | (apply Rg.up_enter; (with_reducible refine (HP.out _).mono ?_); rintro e w1 ⟨rfl, hb1⟩; exact ⟨rfl, hb1⟩)
           | (apply Rg.up_enter; (with_reducible refine (HQ.out _).mono ?_); rintro e w1 ⟨rfl, hb1⟩; exact ⟨rfl, hb1⟩)
           | (apply Rg.up_enter; (with_reducible refine (HC.out _).mono ?_); rintro e w1 ⟨rfl, hb1⟩; exact ⟨rfl, hb1⟩)
       simp only [Act.put, List.setIfInBounds_toArray, List.set_cons_zero, List.set_cons_succ])
    refine Rg.wk_nil (Rg.fin0 rfl ?_)
    intro wy hy
    obtain ⟨hcy, hfy⟩ := hy.cells
    go_wp2
    go_ret
    exact ⟨rfl, (by with_reducible repeat (first | exact Ext.refl _ | assumption | apply Ext.drewN | apply Ext.drew | apply Ext.alloc | (refine Ext.setCell ?_ (by simp <;> omega) _) | (refine Ext.trans ?_ (by assumption))))⟩
  · clear HK
    go_wp2_with (fail)
    refine Rg.wp_region 11 11 (fun _ => none) (fun _ _ => rfl) (by kernel_rfl) (by kernel_rfl) ?_
    simp only [List.take_succ_cons, List.take_zero, List.drop_succ_cons, List.drop_zero]
    repeat
      (refine Rg.wk_step (by rfl) ?_
       apply Exists.intro
       refine ⟨fun wz hw => ?_, ?_⟩
       · obtain ⟨hc, hf⟩ := hw.cells
         go_simp
         first
           | exact Rg.up_value
           | (apply Rg.up_enter; (with_reducible refine (HP.out _).mono ?_); rintro e w1 ⟨rfl, hb1⟩; exact ⟨rfl, hb1⟩)
           | (apply Rg.up_enter; (with_reducible refine (HQ.out _).mono ?_); rintro e w1 ⟨rfl, hb1⟩; exact ⟨rfl, hb1⟩)
           | (apply Rg.up_enter; (with_reducible refine (HC.out _).mono ?_); rintro e w1 ⟨rfl, hb1⟩; exact ⟨rfl, hb1⟩)
       simp only [Act.put, List.setIfInBounds_toArray, List.set_cons_zero, List.set_cons_succ])
    refine Rg.wk_nil (Rg.fin0 rfl ?_)
    intro wy hy
    obtain ⟨hcy, hfy⟩ := hy.cells
    go_wp2
    go_ret
    exact ⟨rfl, (by with_reducible repeat (first | exact Ext.refl _ | assumption | apply Ext.drewN | apply Ext.drew | apply Ext.alloc | (refine Ext.setCell ?_ (by simp <;> omega) _) | (refine Ext.trans ?_ (by assumption))))⟩

theorem Cmp_any (a b : Int × Int) (ha : I2 a) (hb : I2 b) (w : World) :
    Calls Try.prog 94 #[rv a, rv b] w fun e w' => e = .returned (.int .i64 (cmpI a b)) ∧ Ext w w' := by
  cases hr : (rightB a.1 a.2 && rightB b.1 b.2)
  · rw [show cmpI a b = 0 from if_neg (by simp [hr])]
    exact Cmp_no a.1 a.2 b.1 b.2 ha hb hr w
  · refine Cmp_yes a.1 a.2 b.1 b.2 ha hb hr (sumOk_of ha hb hr) (cmpI a b) ?_ w
    rw [show cmpI a b = _ from if_pos hr]
    by_cases hxy : decide (a.1 < 0) = decide (b.1 < 0)
    · rw [if_pos hxy]
      by_cases h0 : a.1 < 0
      · rw [if_pos h0]; exact .inr (.inr ⟨hxy, rfl, by simpa using h0⟩)
      · rw [if_neg h0]; exact .inr (.inl ⟨hxy, rfl, by simpa using h0⟩)
    · rw [if_neg hxy]; exact .inl ⟨hxy, rfl⟩

end Go.Proofs.Ytgkdeknfmmgbdaa

namespace Go.Proofs.Ytgkdeknfmmgbdaa
set_option linter.unusedVariables false
set_option linter.unusedSimpArgs false
open Go.RowKit

/-- The first place at which p holds, or -1. -/
def idxFrom (p : Nat → Bool) (n : Nat) : Nat → Int
  | 0 => -1
  | f + 1 => if p (n - (f + 1)) then ((n - (f + 1) : Nat) : Int) else idxFrom p n f
def idxZ (p : Nat → Bool) (n : Nat) : Int := idxFrom p n n
theorem idxFrom_step {p : Nat → Bool} {n k : Nat} (hk : k < n) : idxFrom p n (n - k) = if p k then (k : Int) else idxFrom p n (n - (k + 1)) := by
  rw [show n - k = (n - (k + 1)) + 1 by omega, idxFrom, show n - (n - (k + 1) + 1) = k by omega]

set_option maxRecDepth 100000 in
set_option maxHeartbeats 1000000 in
theorem index96 (b o n c : Nat) (hn : n ≤ 1000000) (f : FuncId) (cap : Array Value) (e : Nat → Nat → Value) (p : Nat → Bool) (w : World)
    (hc0 : ∀ k, k < n → w.cell? ⟨b, o + k * 2, none⟩ = some (e k 0)) (hc1 : ∀ k, k < n → w.cell? ⟨b, o + k * 2 + 1, none⟩ = some (e k 1))
    (hF : ∀ k w', k < n → Ext w w' → Calls Try.prog f (#[.agg #[e k 0, e k 1]] ++ cap) w' fun e w'' => e = .returned (.bool (p k)) ∧ Ext w' w'')
    (hE : ∀ args w, (callFunc f args).run Try.prog w = .ok (.enter f args) w) :
    Calls Try.prog 96 #[.slice (some ⟨b, o, none⟩) n c, .func (.func f) #[] cap] w fun e w' => e = .returned (.int .i64 (idxZ p n)) ∧ Ext w w' := by
  have HF := Lib.hid hF
  have HC0 := Lib.hid hc0; have HC1 := Lib.hid hc1
  clear hF
  clear hc0 hc1
  go_enter Try.func96, Try.ntmps96
  go_wp2
  go_loopw [8] (fun i wr => ∃ k : Nat, k ≤ n ∧ i = .int .i64 k ∧ idxZ p n = idxFrom p n (n - k) ∧ Ext w wr) (fun i _ => n - (intOf i).toNat)
  case atStart => exact ⟨0, Nat.zero_le _, rfl, rfl, Ext.refl _⟩
  case round =>
    obtain ⟨k, hk, rfl, hi, hx⟩ := hrel
    have Hi := Lib.hid hi; clear hi
    rcases Nat.lt_or_ge k n with hlt | hge
    · have hbl : b < w.heap.size := World.block_lt_of_cell? w _ (HC0.out k hlt)
      have h0 := (hx.cells.1 b (o + k * 2) hbl).trans (HC0.out k hlt)
      have h1 := (hx.cells.1 b (o + k * 2 + 1) hbl).trans (HC1.out k hlt)
      have HFk := Lib.hid (HF.out k wr hlt hx)
      have Hx := Lib.hid hx
      clear hx
      cases hp : p k
      · rw [hp] at HFk
        have Hp := Lib.hid hp; clear hp
        go_wp2_with (with_reducible refine HFk.out.mono ?_; rintro e' w1 ⟨rfl, hb⟩)
        go_roundw
        case rel => exact ⟨k + 1, by omega, by go_num, by rw [Hi.out, idxFrom_step hlt, Hp.out]; rfl, Hx.out.trans hb⟩
        case measure => simp [intOf]; omega
      · rw [hp] at HFk
        have Hp := Lib.hid hp; clear hp
        go_wp2_with (with_reducible refine HFk.out.mono ?_; rintro e' w1 ⟨rfl, hb⟩)
        go_ret
        exact ⟨by rw [Hi.out, idxFrom_step hlt, Hp.out]; rfl, Hx.out.trans hb⟩
    · have hkn : k = n := by omega
      subst hkn
      go_wp2
      go_ret
      exact ⟨by rw [Hi.out, Nat.sub_self]; rfl, hx⟩

theorem index96_nil (A : Option Addr) (c : Nat) (f : Value) (w : World) :
    Calls Try.prog 96 #[.slice A 0 c, f] w fun e w' => e = .returned (.int .i64 (-1)) ∧ Ext w w' := by
  go_enter Try.func96, Try.ntmps96
  go_wp2
  refine wp_loop_rounds 1 ?_
  repeat any_goals (rw [rounds_succ]; go_wp2)
  go_ret
  exact ⟨rfl, Ext.refl _⟩

set_option maxRecDepth 100000 in
set_option maxHeartbeats 1000000 in
theorem index70 (b o n c : Nat) (hn : n ≤ 1000000) (f : FuncId) (cap : Array Value) (e : Nat → Nat → Value) (p : Nat → Bool) (w : World)
    (hc0 : ∀ k, k < n → w.cell? ⟨b, o + k * 2, none⟩ = some (e k 0)) (hc1 : ∀ k, k < n → w.cell? ⟨b, o + k * 2 + 1, none⟩ = some (e k 1))
    (hF : ∀ k w', k < n → Ext w w' → Calls Try.prog f (#[.agg #[e k 0, e k 1]] ++ cap) w' fun e w'' => e = .returned (.bool (p k)) ∧ Ext w' w'')
    (hE : ∀ args w, (callFunc f args).run Try.prog w = .ok (.enter f args) w) :
    Calls Try.prog 70 #[.slice (some ⟨b, o, none⟩) n c, .func (.func f) #[] cap] w fun e w' => e = .returned (.int .i64 (idxZ p n)) ∧ Ext w w' := by
  have HF := Lib.hid hF
  have HC0 := Lib.hid hc0; have HC1 := Lib.hid hc1
  clear hF
  clear hc0 hc1
  go_enter Try.func70, Try.ntmps70
  go_wp2
  go_loopw [8] (fun i wr => ∃ k : Nat, k ≤ n ∧ i = .int .i64 k ∧ idxZ p n = idxFrom p n (n - k) ∧ Ext w wr) (fun i _ => n - (intOf i).toNat)
  case atStart => exact ⟨0, Nat.zero_le _, rfl, rfl, Ext.refl _⟩
  case round =>
    obtain ⟨k, hk, rfl, hi, hx⟩ := hrel
    have Hi := Lib.hid hi; clear hi
    rcases Nat.lt_or_ge k n with hlt | hge
    · have hbl : b < w.heap.size := World.block_lt_of_cell? w _ (HC0.out k hlt)
      have h0 := (hx.cells.1 b (o + k * 2) hbl).trans (HC0.out k hlt)
      have h1 := (hx.cells.1 b (o + k * 2 + 1) hbl).trans (HC1.out k hlt)
      have HFk := Lib.hid (HF.out k wr hlt hx)
      have Hx := Lib.hid hx
      clear hx
      cases hp : p k
      · rw [hp] at HFk
        have Hp := Lib.hid hp; clear hp
        go_wp2_with (with_reducible refine HFk.out.mono ?_; rintro e' w1 ⟨rfl, hb⟩)
        go_roundw
        case rel => exact ⟨k + 1, by omega, by go_num, by rw [Hi.out, idxFrom_step hlt, Hp.out]; rfl, Hx.out.trans hb⟩
        case measure => simp [intOf]; omega
      · rw [hp] at HFk
        have Hp := Lib.hid hp; clear hp
        go_wp2_with (with_reducible refine HFk.out.mono ?_; rintro e' w1 ⟨rfl, hb⟩)
        go_ret
        exact ⟨by rw [Hi.out, idxFrom_step hlt, Hp.out]; rfl, Hx.out.trans hb⟩
    · have hkn : k = n := by omega
      subst hkn
      go_wp2
      go_ret
      exact ⟨by rw [Hi.out, Nat.sub_self]; rfl, hx⟩

theorem index70_nil (A : Option Addr) (c : Nat) (f : Value) (w : World) :
    Calls Try.prog 70 #[.slice A 0 c, f] w fun e w' => e = .returned (.int .i64 (-1)) ∧ Ext w w' := by
  go_enter Try.func70, Try.ntmps70
  go_wp2
  refine wp_loop_rounds 1 ?_
  repeat any_goals (rw [rounds_succ]; go_wp2)
  go_ret
  exact ⟨rfl, Ext.refl _⟩

set_option maxRecDepth 100000 in
set_option maxHeartbeats 1000000 in
theorem index59 (b o n c : Nat) (hn : n ≤ 1000000) (f : FuncId) (cap : Array Value) (e : Nat → Nat → Value) (p : Nat → Bool) (w : World)
    (hc0 : ∀ k, k < n → w.cell? ⟨b, o + k * 2, none⟩ = some (e k 0)) (hc1 : ∀ k, k < n → w.cell? ⟨b, o + k * 2 + 1, none⟩ = some (e k 1))
    (hF : ∀ k w', k < n → Ext w w' → Calls Try.prog f (#[.agg #[e k 0, e k 1]] ++ cap) w' fun e w'' => e = .returned (.bool (p k)) ∧ Ext w' w'')
    (hE : ∀ args w, (callFunc f args).run Try.prog w = .ok (.enter f args) w) :
    Calls Try.prog 59 #[.slice (some ⟨b, o, none⟩) n c, .func (.func f) #[] cap] w fun e w' => e = .returned (.int .i64 (idxZ p n)) ∧ Ext w w' := by
  have HF := Lib.hid hF
  have HC0 := Lib.hid hc0; have HC1 := Lib.hid hc1
  clear hF
  clear hc0 hc1
  go_enter Try.func59, Try.ntmps59
  go_wp2
  go_loopw [8] (fun i wr => ∃ k : Nat, k ≤ n ∧ i = .int .i64 k ∧ idxZ p n = idxFrom p n (n - k) ∧ Ext w wr) (fun i _ => n - (intOf i).toNat)
  case atStart => exact ⟨0, Nat.zero_le _, rfl, rfl, Ext.refl _⟩
  case round =>
    obtain ⟨k, hk, rfl, hi, hx⟩ := hrel
    have Hi := Lib.hid hi; clear hi
    rcases Nat.lt_or_ge k n with hlt | hge
    · have hbl : b < w.heap.size := World.block_lt_of_cell? w _ (HC0.out k hlt)
      have h0 := (hx.cells.1 b (o + k * 2) hbl).trans (HC0.out k hlt)
      have h1 := (hx.cells.1 b (o + k * 2 + 1) hbl).trans (HC1.out k hlt)
      have HFk := Lib.hid (HF.out k wr hlt hx)
      have Hx := Lib.hid hx
      clear hx
      cases hp : p k
      · rw [hp] at HFk
        have Hp := Lib.hid hp; clear hp
        go_wp2_with (with_reducible refine HFk.out.mono ?_; rintro e' w1 ⟨rfl, hb⟩)
        go_roundw
        case rel => exact ⟨k + 1, by omega, by go_num, by rw [Hi.out, idxFrom_step hlt, Hp.out]; rfl, Hx.out.trans hb⟩
        case measure => simp [intOf]; omega
      · rw [hp] at HFk
        have Hp := Lib.hid hp; clear hp
        go_wp2_with (with_reducible refine HFk.out.mono ?_; rintro e' w1 ⟨rfl, hb⟩)
        go_ret
        exact ⟨by rw [Hi.out, idxFrom_step hlt, Hp.out]; rfl, Hx.out.trans hb⟩
    · have hkn : k = n := by omega
      subst hkn
      go_wp2
      go_ret
      exact ⟨by rw [Hi.out, Nat.sub_self]; rfl, hx⟩

theorem index59_nil (A : Option Addr) (c : Nat) (f : Value) (w : World) :
    Calls Try.prog 59 #[.slice A 0 c, f] w fun e w' => e = .returned (.int .i64 (-1)) ∧ Ext w w' := by
  go_enter Try.func59, Try.ntmps59
  go_wp2
  refine wp_loop_rounds 1 ?_
  repeat any_goals (rw [rounds_succ]; go_wp2)
  go_ret
  exact ⟨rfl, Ext.refl _⟩

set_option maxRecDepth 100000 in
set_option maxHeartbeats 1000000 in
theorem index86 (b o n c : Nat) (hn : n ≤ 1000000) (f : FuncId) (cap : Array Value) (e : Nat → Nat → Value) (p : Nat → Bool) (w : World)
    (hc0 : ∀ k, k < n → w.cell? ⟨b, o + k * 5, none⟩ = some (e k 0)) (hc1 : ∀ k, k < n → w.cell? ⟨b, o + k * 5 + 1, none⟩ = some (e k 1)) (hc2 : ∀ k, k < n → w.cell? ⟨b, o + k * 5 + 2, none⟩ = some (e k 2)) (hc3 : ∀ k, k < n → w.cell? ⟨b, o + k * 5 + 3, none⟩ = some (e k 3)) (hc4 : ∀ k, k < n → w.cell? ⟨b, o + k * 5 + 4, none⟩ = some (e k 4))
    (hF : ∀ k w', k < n → Ext w w' → Calls Try.prog f (#[.agg #[e k 0, e k 1, e k 2, e k 3, e k 4]] ++ cap) w' fun e w'' => e = .returned (.bool (p k)) ∧ Ext w' w'')
    (hE : ∀ args w, (callFunc f args).run Try.prog w = .ok (.enter f args) w) :
    Calls Try.prog 86 #[.slice (some ⟨b, o, none⟩) n c, .func (.func f) #[] cap] w fun e w' => e = .returned (.int .i64 (idxZ p n)) ∧ Ext w w' := by
  have HF := Lib.hid hF
  have HC0 := Lib.hid hc0; have HC1 := Lib.hid hc1; have HC2 := Lib.hid hc2; have HC3 := Lib.hid hc3; have HC4 := Lib.hid hc4
  clear hF
  clear hc0 hc1 hc2 hc3 hc4
  go_enter Try.func86, Try.ntmps86
  go_wp2
  go_loopw [8] (fun i wr => ∃ k : Nat, k ≤ n ∧ i = .int .i64 k ∧ idxZ p n = idxFrom p n (n - k) ∧ Ext w wr) (fun i _ => n - (intOf i).toNat)
  case atStart => exact ⟨0, Nat.zero_le _, rfl, rfl, Ext.refl _⟩
  case round =>
    obtain ⟨k, hk, rfl, hi, hx⟩ := hrel
    have Hi := Lib.hid hi; clear hi
    rcases Nat.lt_or_ge k n with hlt | hge
    · have hbl : b < w.heap.size := World.block_lt_of_cell? w _ (HC0.out k hlt)
      have h0 := (hx.cells.1 b (o + k * 5) hbl).trans (HC0.out k hlt)
      have h1 := (hx.cells.1 b (o + k * 5 + 1) hbl).trans (HC1.out k hlt)
      have h2 := (hx.cells.1 b (o + k * 5 + 2) hbl).trans (HC2.out k hlt)
      have h3 := (hx.cells.1 b (o + k * 5 + 3) hbl).trans (HC3.out k hlt)
      have h4 := (hx.cells.1 b (o + k * 5 + 4) hbl).trans (HC4.out k hlt)
      have HFk := Lib.hid (HF.out k wr hlt hx)
      have Hx := Lib.hid hx
      clear hx
      cases hp : p k
      · rw [hp] at HFk
        have Hp := Lib.hid hp; clear hp
        go_wp2_with (with_reducible refine HFk.out.mono ?_; rintro e' w1 ⟨rfl, hb⟩)
        go_roundw
        case rel => exact ⟨k + 1, by omega, by go_num, by rw [Hi.out, idxFrom_step hlt, Hp.out]; rfl, Hx.out.trans hb⟩
        case measure => simp [intOf]; omega
      · rw [hp] at HFk
        have Hp := Lib.hid hp; clear hp
        go_wp2_with (with_reducible refine HFk.out.mono ?_; rintro e' w1 ⟨rfl, hb⟩)
        go_ret
        exact ⟨by rw [Hi.out, idxFrom_step hlt, Hp.out]; rfl, Hx.out.trans hb⟩
    · have hkn : k = n := by omega
      subst hkn
      go_wp2
      go_ret
      exact ⟨by rw [Hi.out, Nat.sub_self]; rfl, hx⟩

theorem index86_nil (A : Option Addr) (c : Nat) (f : Value) (w : World) :
    Calls Try.prog 86 #[.slice A 0 c, f] w fun e w' => e = .returned (.int .i64 (-1)) ∧ Ext w w' := by
  go_enter Try.func86, Try.ntmps86
  go_wp2
  refine wp_loop_rounds 1 ?_
  repeat any_goals (rw [rounds_succ]; go_wp2)
  go_ret
  exact ⟨rfl, Ext.refl _⟩

end Go.Proofs.Ytgkdeknfmmgbdaa
