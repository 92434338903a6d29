/-
  math/bits: Len64, LeadingZeros64; how far a word is from its highest bit. Conditions: the number is a word.
-/
import Derived.Test.YtgkdeknfmmgbdaaDvM
import Derived.Lib.Strings
import Derived.Lib.Slices
import Derived.Lib.Small
import Derived.Lib.Walk
import Derived.Lib.BitFns
namespace Go.Proofs.Ytgkdeknfmmgbdaa
set_option linter.unusedVariables false
set_option linter.unusedSimpArgs false
open Go.RowKit

theorem len8_get (i : Int) (h0 : 0 ≤ i) (h1 : i ≤ 255) (h : i.toNat < Lib.len8tab.size) : ((Lib.len8tab[i.toNat]'h).toNat : Int) = (Lib.bitLen i.toNat : Int) := by
  rw [← Lib.len8_of i h0 h1]
  simp only [Lib.len8, ByteArray.getElem?_lt' _ _ h, Option.getD_some]
theorem fin_sum {A B k : Nat} (s : A = k + B) (l : B ≤ 8) (hk : k ≤ 56) : wrap64 ((k : Int) + wrap64 (B : Int)) = (A : Int) := by
  simp only [wrap64]
  omega
theorem fin_z {A : Nat} (l : A ≤ 8) : wrap64 (wrap64 (A : Int)) = (A : Int) := by
  simp only [wrap64]
  omega
theorem fin_56 (x : Int) (h0 : 0 ≤ x) (h1 : x ≤ 18446744073709551615) (h2 : 72057594037927936 ≤ x) (h3 : x / 4294967296 / 65536 / 256 ≤ 255) (h : (x / 4294967296 / 65536 / 256).toNat < Lib.len8tab.size) : wrap64 (56 + wrap64 (Lib.len8tab[(x / 4294967296 / 65536 / 256).toNat]'h).toNat) = (Lib.bitLen x.toNat : Int) := by
  have l := Lib.bitLen_le8' (x / 4294967296 / 65536 / 256) (by omega) (by omega)
  have hg := len8_get (x / 4294967296 / 65536 / 256) (by omega) (by omega) h
  have e : (x / 4294967296 / 65536 / 256).toNat = x.toNat / 72057594037927936 := by omega
  have s := Lib.bitLen_shift56 x.toNat (by omega) (by omega)
  rw [hg, e]
  rw [e] at l
  exact fin_sum s l (by decide)
theorem fin_48 (x : Int) (h0 : 0 ≤ x) (h1 : x ≤ 18446744073709551615) (h2 : 281474976710656 ≤ x) (h3 : x / 4294967296 / 65536 ≤ 255) (h : (x / 4294967296 / 65536).toNat < Lib.len8tab.size) : wrap64 (48 + wrap64 (Lib.len8tab[(x / 4294967296 / 65536).toNat]'h).toNat) = (Lib.bitLen x.toNat : Int) := by
  have l := Lib.bitLen_le8' (x / 4294967296 / 65536) (by omega) (by omega)
  have hg := len8_get (x / 4294967296 / 65536) (by omega) (by omega) h
  have e : (x / 4294967296 / 65536).toNat = x.toNat / 281474976710656 := by omega
  have s := Lib.bitLen_shift48 x.toNat (by omega) (by omega)
  rw [hg, e]
  rw [e] at l
  exact fin_sum s l (by decide)
theorem fin_40 (x : Int) (h0 : 0 ≤ x) (h1 : x ≤ 18446744073709551615) (h2 : 1099511627776 ≤ x) (h3 : x / 4294967296 / 256 ≤ 255) (h : (x / 4294967296 / 256).toNat < Lib.len8tab.size) : wrap64 (40 + wrap64 (Lib.len8tab[(x / 4294967296 / 256).toNat]'h).toNat) = (Lib.bitLen x.toNat : Int) := by
  have l := Lib.bitLen_le8' (x / 4294967296 / 256) (by omega) (by omega)
  have hg := len8_get (x / 4294967296 / 256) (by omega) (by omega) h
  have e : (x / 4294967296 / 256).toNat = x.toNat / 1099511627776 := by omega
  have s := Lib.bitLen_shift40 x.toNat (by omega) (by omega)
  rw [hg, e]
  rw [e] at l
  exact fin_sum s l (by decide)
theorem fin_32 (x : Int) (h0 : 0 ≤ x) (h1 : x ≤ 18446744073709551615) (h2 : 4294967296 ≤ x) (h3 : x / 4294967296 ≤ 255) (h : (x / 4294967296).toNat < Lib.len8tab.size) : wrap64 (32 + wrap64 (Lib.len8tab[(x / 4294967296).toNat]'h).toNat) = (Lib.bitLen x.toNat : Int) := by
  have l := Lib.bitLen_le8' (x / 4294967296) (by omega) (by omega)
  have hg := len8_get (x / 4294967296) (by omega) (by omega) h
  have e : (x / 4294967296).toNat = x.toNat / 4294967296 := by omega
  have s := Lib.bitLen_shift32 x.toNat (by omega) (by omega)
  rw [hg, e]
  rw [e] at l
  exact fin_sum s l (by decide)
theorem fin_24 (x : Int) (h0 : 0 ≤ x) (h1 : x ≤ 18446744073709551615) (h2 : 16777216 ≤ x) (h3 : x / 65536 / 256 ≤ 255) (h : (x / 65536 / 256).toNat < Lib.len8tab.size) : wrap64 (24 + wrap64 (Lib.len8tab[(x / 65536 / 256).toNat]'h).toNat) = (Lib.bitLen x.toNat : Int) := by
  have l := Lib.bitLen_le8' (x / 65536 / 256) (by omega) (by omega)
  have hg := len8_get (x / 65536 / 256) (by omega) (by omega) h
  have e : (x / 65536 / 256).toNat = x.toNat / 16777216 := by omega
  have s := Lib.bitLen_shift24 x.toNat (by omega) (by omega)
  rw [hg, e]
  rw [e] at l
  exact fin_sum s l (by decide)
theorem fin_16 (x : Int) (h0 : 0 ≤ x) (h1 : x ≤ 18446744073709551615) (h2 : 65536 ≤ x) (h3 : x / 65536 ≤ 255) (h : (x / 65536).toNat < Lib.len8tab.size) : wrap64 (16 + wrap64 (Lib.len8tab[(x / 65536).toNat]'h).toNat) = (Lib.bitLen x.toNat : Int) := by
  have l := Lib.bitLen_le8' (x / 65536) (by omega) (by omega)
  have hg := len8_get (x / 65536) (by omega) (by omega) h
  have e : (x / 65536).toNat = x.toNat / 65536 := by omega
  have s := Lib.bitLen_shift16 x.toNat (by omega) (by omega)
  rw [hg, e]
  rw [e] at l
  exact fin_sum s l (by decide)
theorem fin_8 (x : Int) (h0 : 0 ≤ x) (h1 : x ≤ 18446744073709551615) (h2 : 256 ≤ x) (h3 : x / 256 ≤ 255) (h : (x / 256).toNat < Lib.len8tab.size) : wrap64 (8 + wrap64 (Lib.len8tab[(x / 256).toNat]'h).toNat) = (Lib.bitLen x.toNat : Int) := by
  have l := Lib.bitLen_le8' (x / 256) (by omega) (by omega)
  have hg := len8_get (x / 256) (by omega) (by omega) h
  have e : (x / 256).toNat = x.toNat / 256 := by omega
  have s := Lib.bitLen_shift8 x.toNat (by omega) (by omega)
  rw [hg, e]
  rw [e] at l
  exact fin_sum s l (by decide)
theorem fin_0 (x : Int) (h0 : 0 ≤ x) (h3 : x ≤ 255) (h : x.toNat < Lib.len8tab.size) : wrap64 (wrap64 (Lib.len8tab[x.toNat]'h).toNat) = (Lib.bitLen x.toNat : Int) := by
  have l := Lib.bitLen_le8' x (by omega) (by omega)
  have hg := len8_get x (by omega) (by omega) h
  rw [hg]
  exact fin_z l
set_option maxHeartbeats 1000000 in
set_option maxRecDepth 100000 in
theorem Len64_any (x : Int) (w : World) (h0 : 0 ≤ x) (h1 : x ≤ 18446744073709551615) :
    Calls Try.prog 126 #[.int .u64 x] w fun e w' => e = .returned (.int .i64 (Lib.bitLen x.toNat)) ∧ w' = w := by
  go_enter Try.func126, Try.ntmps126
  go_wp2
  all_goals first
    | (go_ret; refine ⟨congrArg Ending.returned (congrArg (Value.int IntKind.i64) ?_), rfl⟩)
    | (exfalso; have hs := Lib.len8tab_size; omega)
  all_goals first
    | (with_reducible refine fin_56 x ?_ ?_ ?_ ?_ _; all_goals omega)
    | (with_reducible refine fin_48 x ?_ ?_ ?_ ?_ _; all_goals omega)
    | (with_reducible refine fin_40 x ?_ ?_ ?_ ?_ _; all_goals omega)
    | (with_reducible refine fin_32 x ?_ ?_ ?_ ?_ _; all_goals omega)
    | (with_reducible refine fin_24 x ?_ ?_ ?_ ?_ _; all_goals omega)
    | (with_reducible refine fin_16 x ?_ ?_ ?_ ?_ _; all_goals omega)
    | (with_reducible refine fin_8 x ?_ ?_ ?_ ?_ _; all_goals omega)
    | (with_reducible refine fin_0 x ?_ ?_ _; all_goals omega)

/-- The highest bit. -/
theorem bitLen_between : ∀ (k x : Nat), x < 2 ^ k → k ≤ 64 → x ≠ 0 → ∃ n, Lib.bitLen x = n + 1 ∧ 2 ^ n ≤ x ∧ x < 2 ^ (n + 1)
  | 0, x, h, _, h0 => by omega
  | k + 1, x, h, hk, h0 => by
    have hx : x < 2 ^ 64 := Nat.lt_of_lt_of_le h (Nat.pow_le_pow_right (by decide) hk)
    have e := Lib.bitLen_half x h0 hx
    by_cases h1 : x / 2 = 0
    · have hx1 : x = 1 := by omega
      subst hx1
      exact ⟨0, by decide, by decide, by decide⟩
    · obtain ⟨n, hn, h2, h3⟩ := bitLen_between k (x / 2) (by rw [Nat.pow_succ] at h; omega) (by omega) h1
      refine ⟨n + 1, by omega, ?_, ?_⟩
      · rw [Nat.pow_succ]; omega
      · rw [Nat.pow_succ]; omega

theorem lead_any (x : Int) (w : World) (h0 : 0 < x) (h1 : x ≤ 18446744073709551615) :
    ∃ s : Nat, s ≤ 63 ∧ 9223372036854775808 ≤ x * 2 ^ s ∧ x * 2 ^ s < 18446744073709551616 ∧ Calls Try.prog 125 #[.int .u64 x] w fun e w' => e = .returned (.int .i64 (s : Int)) ∧ w' = w := by
  obtain ⟨y, rfl⟩ := Int.eq_ofNat_of_zero_le (show 0 ≤ x by omega)
  obtain ⟨n, hn, h2, h3⟩ := bitLen_between 64 y (by omega) (Nat.le_refl _) (by omega)
  have hn63 : n ≤ 63 := by
    rcases Nat.lt_or_ge 63 n with h | h
    · have : 2 ^ 64 ≤ 2 ^ n := Nat.pow_le_pow_right (by decide) h
      omega
    · exact h
  have e1 : 2 ^ n * 2 ^ (63 - n) = 9223372036854775808 := by
    rw [← Nat.pow_add, show n + (63 - n) = 63 by omega]
  have e2 : 2 ^ (n + 1) * 2 ^ (63 - n) = 18446744073709551616 := by
    rw [← Nat.pow_add, show n + 1 + (63 - n) = 64 by omega]
  have k1 : 2 ^ n * 2 ^ (63 - n) ≤ y * 2 ^ (63 - n) := Nat.mul_le_mul_right _ h2
  have k2 : y * 2 ^ (63 - n) < 2 ^ (n + 1) * 2 ^ (63 - n) := Nat.mul_lt_mul_of_pos_right h3 (Nat.pow_pos (by decide))
  rw [e1] at k1
  rw [e2] at k2
  have ec : ((y : Int) * 2 ^ (63 - n)) = ((y * 2 ^ (63 - n) : Nat) : Int) := by rw [Int.natCast_mul, Int.natCast_pow]; rfl
  refine ⟨63 - n, by omega, by rw [ec]; omega, by rw [ec]; omega, ?_⟩
  have HL := Lib.hid (fun w => Len64_any (y : Int) w (by omega) h1)
  rw [Int.toNat_natCast, hn] at HL
  have hnn : n + 1 ≤ 64 := by omega
  clear k1 k2 e1 e2 h2 h3 ec hn
  go_enter Try.func125, Try.ntmps125
  go_wp2_with (go_at_call 126; refine (HL.out _).mono ?_; rintro e w' ⟨rfl, rfl⟩)
  go_ret
  exact ⟨congrArg Ending.returned (congrArg (Value.int IntKind.i64) (by omega)), rfl⟩

end Go.Proofs.Ytgkdeknfmmgbdaa
