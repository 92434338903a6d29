/-
  Lemmas of this claim (JtM). Nothing is asked.
-/
import Derived.Test.YteomcpplajeidaaGreatJtL
import Derived.Lib.Strings
import Derived.Lib.Slices
import Derived.Lib.Small
import Derived.Lib.Walk
import Derived.Lib.BitFns
import Derived.Test.YteomcpplajeidaaGreatJtB
import Derived.Deep.CutBlock
namespace Go.Proofs.YteomcpplajeidaaGreat
set_option linter.unusedVariables false
set_option linter.unusedSimpArgs false
set_option maxRecDepth 100000
open Go.RowKit
theorem len8_get (i : Int) (h0 : 0 ≤ i) (h1 : i ≤ 255) (h : i.toNat < Lib.len8tab.size) : ((Lib.len8tab[i.toNat]'h).toNat : Int) = (Lib.bitLen i.toNat : Int) := by
  rw [← Lib.len8_of i h0 h1]
  simp only [Lib.len8, ByteArray.getElem?_lt' _ _ h, Option.getD_some]
theorem fin_sum {A B k : Nat} (s : A = k + B) (l : B ≤ 8) (hk : k ≤ 56) : wrap64 ((k : Int) + wrap64 (B : Int)) = (A : Int) := by
  simp only [wrap64]
  omega
theorem fin_z {A : Nat} (l : A ≤ 8) : wrap64 (wrap64 (A : Int)) = (A : Int) := by
  simp only [wrap64]
  omega
theorem fin_56 (x : Int) (h0 : 0 ≤ x) (h1 : x ≤ 18446744073709551615) (h2 : 72057594037927936 ≤ x) (h3 : x / 4294967296 / 65536 / 256 ≤ 255) (h : (x / 4294967296 / 65536 / 256).toNat < Lib.len8tab.size) : wrap64 (56 + wrap64 (Lib.len8tab[(x / 4294967296 / 65536 / 256).toNat]'h).toNat) = (Lib.bitLen x.toNat : Int) := by
  have l := Lib.bitLen_le8' (x / 4294967296 / 65536 / 256) (by omega) (by omega)
  have hg := len8_get (x / 4294967296 / 65536 / 256) (by omega) (by omega) h
  have e : (x / 4294967296 / 65536 / 256).toNat = x.toNat / 72057594037927936 := by omega
  have s := Lib.bitLen_shift56 x.toNat (by omega) (by omega)
  rw [hg, e]
  rw [e] at l
  exact fin_sum s l (by decide)
theorem fin_48 (x : Int) (h0 : 0 ≤ x) (h1 : x ≤ 18446744073709551615) (h2 : 281474976710656 ≤ x) (h3 : x / 4294967296 / 65536 ≤ 255) (h : (x / 4294967296 / 65536).toNat < Lib.len8tab.size) : wrap64 (48 + wrap64 (Lib.len8tab[(x / 4294967296 / 65536).toNat]'h).toNat) = (Lib.bitLen x.toNat : Int) := by
  have l := Lib.bitLen_le8' (x / 4294967296 / 65536) (by omega) (by omega)
  have hg := len8_get (x / 4294967296 / 65536) (by omega) (by omega) h
  have e : (x / 4294967296 / 65536).toNat = x.toNat / 281474976710656 := by omega
  have s := Lib.bitLen_shift48 x.toNat (by omega) (by omega)
  rw [hg, e]
  rw [e] at l
  exact fin_sum s l (by decide)
theorem fin_40 (x : Int) (h0 : 0 ≤ x) (h1 : x ≤ 18446744073709551615) (h2 : 1099511627776 ≤ x) (h3 : x / 4294967296 / 256 ≤ 255) (h : (x / 4294967296 / 256).toNat < Lib.len8tab.size) : wrap64 (40 + wrap64 (Lib.len8tab[(x / 4294967296 / 256).toNat]'h).toNat) = (Lib.bitLen x.toNat : Int) := by
  have l := Lib.bitLen_le8' (x / 4294967296 / 256) (by omega) (by omega)
  have hg := len8_get (x / 4294967296 / 256) (by omega) (by omega) h
  have e : (x / 4294967296 / 256).toNat = x.toNat / 1099511627776 := by omega
  have s := Lib.bitLen_shift40 x.toNat (by omega) (by omega)
  rw [hg, e]
  rw [e] at l
  exact fin_sum s l (by decide)
theorem fin_32 (x : Int) (h0 : 0 ≤ x) (h1 : x ≤ 18446744073709551615) (h2 : 4294967296 ≤ x) (h3 : x / 4294967296 ≤ 255) (h : (x / 4294967296).toNat < Lib.len8tab.size) : wrap64 (32 + wrap64 (Lib.len8tab[(x / 4294967296).toNat]'h).toNat) = (Lib.bitLen x.toNat : Int) := by
  have l := Lib.bitLen_le8' (x / 4294967296) (by omega) (by omega)
  have hg := len8_get (x / 4294967296) (by omega) (by omega) h
  have e : (x / 4294967296).toNat = x.toNat / 4294967296 := by omega
  have s := Lib.bitLen_shift32 x.toNat (by omega) (by omega)
  rw [hg, e]
  rw [e] at l
  exact fin_sum s l (by decide)
theorem fin_24 (x : Int) (h0 : 0 ≤ x) (h1 : x ≤ 18446744073709551615) (h2 : 16777216 ≤ x) (h3 : x / 65536 / 256 ≤ 255) (h : (x / 65536 / 256).toNat < Lib.len8tab.size) : wrap64 (24 + wrap64 (Lib.len8tab[(x / 65536 / 256).toNat]'h).toNat) = (Lib.bitLen x.toNat : Int) := by
  have l := Lib.bitLen_le8' (x / 65536 / 256) (by omega) (by omega)
  have hg := len8_get (x / 65536 / 256) (by omega) (by omega) h
  have e : (x / 65536 / 256).toNat = x.toNat / 16777216 := by omega
  have s := Lib.bitLen_shift24 x.toNat (by omega) (by omega)
  rw [hg, e]
  rw [e] at l
  exact fin_sum s l (by decide)
theorem fin_16 (x : Int) (h0 : 0 ≤ x) (h1 : x ≤ 18446744073709551615) (h2 : 65536 ≤ x) (h3 : x / 65536 ≤ 255) (h : (x / 65536).toNat < Lib.len8tab.size) : wrap64 (16 + wrap64 (Lib.len8tab[(x / 65536).toNat]'h).toNat) = (Lib.bitLen x.toNat : Int) := by
  have l := Lib.bitLen_le8' (x / 65536) (by omega) (by omega)
  have hg := len8_get (x / 65536) (by omega) (by omega) h
  have e : (x / 65536).toNat = x.toNat / 65536 := by omega
  have s := Lib.bitLen_shift16 x.toNat (by omega) (by omega)
  rw [hg, e]
  rw [e] at l
  exact fin_sum s l (by decide)
theorem fin_8 (x : Int) (h0 : 0 ≤ x) (h1 : x ≤ 18446744073709551615) (h2 : 256 ≤ x) (h3 : x / 256 ≤ 255) (h : (x / 256).toNat < Lib.len8tab.size) : wrap64 (8 + wrap64 (Lib.len8tab[(x / 256).toNat]'h).toNat) = (Lib.bitLen x.toNat : Int) := by
  have l := Lib.bitLen_le8' (x / 256) (by omega) (by omega)
  have hg := len8_get (x / 256) (by omega) (by omega) h
  have e : (x / 256).toNat = x.toNat / 256 := by omega
  have s := Lib.bitLen_shift8 x.toNat (by omega) (by omega)
  rw [hg, e]
  rw [e] at l
  exact fin_sum s l (by decide)
theorem fin_0 (x : Int) (h0 : 0 ≤ x) (h3 : x ≤ 255) (h : x.toNat < Lib.len8tab.size) : wrap64 (wrap64 (Lib.len8tab[x.toNat]'h).toNat) = (Lib.bitLen x.toNat : Int) := by
  have l := Lib.bitLen_le8' x (by omega) (by omega)
  have hg := len8_get x (by omega) (by omega) h
  rw [hg]
  exact fin_z l
set_option maxHeartbeats 1000000 in
set_option maxRecDepth 100000 in
theorem Len64_any (x : Int) (w : World) (h0 : 0 ≤ x) (h1 : x ≤ 18446744073709551615) :
    Calls Tryz.prog 117 #[.int .u64 x] w fun e w' => e = .returned (.int .i64 (Lib.bitLen x.toNat)) ∧ w' = w := by
  go_enter Tryz.func117, Tryz.ntmps117
  go_wp2
  all_goals first
    | (go_ret; refine ⟨congrArg Ending.returned (congrArg (Value.int IntKind.i64) ?_), rfl⟩)
    | (exfalso; have hs := Lib.len8tab_size; omega)
  all_goals first
    | (with_reducible refine fin_56 x ?_ ?_ ?_ ?_ _; all_goals omega)
    | (with_reducible refine fin_48 x ?_ ?_ ?_ ?_ _; all_goals omega)
    | (with_reducible refine fin_40 x ?_ ?_ ?_ ?_ _; all_goals omega)
    | (with_reducible refine fin_32 x ?_ ?_ ?_ ?_ _; all_goals omega)
    | (with_reducible refine fin_24 x ?_ ?_ ?_ ?_ _; all_goals omega)
    | (with_reducible refine fin_16 x ?_ ?_ ?_ ?_ _; all_goals omega)
    | (with_reducible refine fin_8 x ?_ ?_ ?_ ?_ _; all_goals omega)
    | (with_reducible refine fin_0 x ?_ ?_ _; all_goals omega)
theorem bitLen_between : ∀ (k x : Nat), x < 2 ^ k → k ≤ 64 → x ≠ 0 → ∃ n, Lib.bitLen x = n + 1 ∧ 2 ^ n ≤ x ∧ x < 2 ^ (n + 1)
  | 0, x, h, _, h0 => by omega
  | k + 1, x, h, hk, h0 => by
    have hx : x < 2 ^ 64 := Nat.lt_of_lt_of_le h (Nat.pow_le_pow_right (by decide) hk)
    have e := Lib.bitLen_half x h0 hx
    by_cases h1 : x / 2 = 0
    · have hx1 : x = 1 := by omega
      subst hx1
      exact ⟨0, by decide, by decide, by decide⟩
    · obtain ⟨n, hn, h2, h3⟩ := bitLen_between k (x / 2) (by rw [Nat.pow_succ] at h; omega) (by omega) h1
      refine ⟨n + 1, by omega, ?_, ?_⟩
      · rw [Nat.pow_succ]; omega
      · rw [Nat.pow_succ]; omega
theorem lead_any (x : Int) (w : World) (h0 : 0 < x) (h1 : x ≤ 18446744073709551615) :
    ∃ s : Nat, s ≤ 63 ∧ 9223372036854775808 ≤ x * 2 ^ s ∧ x * 2 ^ s < 18446744073709551616 ∧ Calls Tryz.prog 217 #[.int .u64 x] w fun e w' => e = .returned (.int .i64 (s : Int)) ∧ w' = w := by
  obtain ⟨y, rfl⟩ := Int.eq_ofNat_of_zero_le (show 0 ≤ x by omega)
  obtain ⟨n, hn, h2, h3⟩ := bitLen_between 64 y (by omega) (Nat.le_refl _) (by omega)
  have hn63 : n ≤ 63 := by
    rcases Nat.lt_or_ge 63 n with h | h
    · have : 2 ^ 64 ≤ 2 ^ n := Nat.pow_le_pow_right (by decide) h
      omega
    · exact h
  have e1 : 2 ^ n * 2 ^ (63 - n) = 9223372036854775808 := by
    rw [← Nat.pow_add, show n + (63 - n) = 63 by omega]
  have e2 : 2 ^ (n + 1) * 2 ^ (63 - n) = 18446744073709551616 := by
    rw [← Nat.pow_add, show n + 1 + (63 - n) = 64 by omega]
  have k1 : 2 ^ n * 2 ^ (63 - n) ≤ y * 2 ^ (63 - n) := Nat.mul_le_mul_right _ h2
  have k2 : y * 2 ^ (63 - n) < 2 ^ (n + 1) * 2 ^ (63 - n) := Nat.mul_lt_mul_of_pos_right h3 (Nat.pow_pos (by decide))
  rw [e1] at k1
  rw [e2] at k2
  have ec : ((y : Int) * 2 ^ (63 - n)) = ((y * 2 ^ (63 - n) : Nat) : Int) := by rw [Int.natCast_mul, Int.natCast_pow]; rfl
  refine ⟨63 - n, by omega, by rw [ec]; omega, by rw [ec]; omega, ?_⟩
  have HL := Lib.hid (fun w => Len64_any (y : Int) w (by omega) h1)
  rw [Int.toNat_natCast, hn] at HL
  have hnn : n + 1 ≤ 64 := by omega
  clear k1 k2 e1 e2 h2 h3 ec hn
  go_enter Tryz.func217, Tryz.ntmps217
  go_wp2_with (go_at_call 117; refine (HL.out _).mono ?_; rintro e w' ⟨rfl, rfl⟩)
  go_ret
  exact ⟨congrArg Ending.returned (congrArg (Value.int IntKind.i64) (by omega)), rfl⟩
end Go.Proofs.YteomcpplajeidaaGreat
namespace Go.Proofs.YteomcpplajeidaaGreat
set_option linter.unusedVariables false
set_option linter.unusedSimpArgs false
set_option maxRecDepth 100000
open Go.RowKit
namespace Dv
theorem maskZ (x : Int) (h0 : 0 ≤ x) (h1 : x < 18446744073709551616) : bits .and .u64 x 4294967295 = x % 4294967296 := by
  obtain ⟨n, rfl⟩ := Int.eq_ofNat_of_zero_le h0
  rw [M64.maskN n (by omega)]
  omega
theorem orZ (x z : Int) (s : Nat) (h0 : 0 ≤ x) (hz : 0 ≤ z) (h1 : x * 2 ^ s < 18446744073709551616) (h2 : z < 2 ^ s) (h3 : z < 18446744073709551616) : bits .or .u64 (x * 2 ^ s) z = x * 2 ^ s + z := by
  obtain ⟨n, rfl⟩ := Int.eq_ofNat_of_zero_le h0
  obtain ⟨m, rfl⟩ := Int.eq_ofNat_of_zero_le hz
  have e : (n : Int) * 2 ^ s = ((n * 2 ^ s : Nat) : Int) := by rw [Int.natCast_mul, Int.natCast_pow]; rfl
  have e2 : ((2 : Int) ^ s) = ((2 ^ s : Nat) : Int) := by rw [Int.natCast_pow]; rfl
  rw [e2] at h2
  rw [e] at h1 ⊢
  rw [bits_or_u64_nat _ _ (by omega) (by omega), ← Nat.shiftLeft_eq, ← Nat.shiftLeft_add_eq_or_of_lt (by omega), Int.natCast_add]
theorem pow_ab {s : Nat} (hs : s ≤ 63) : ((2 : Int) ^ s) * 2 ^ (64 - s) = 18446744073709551616 := by
  rw [← Int.pow_add, show s + (64 - s) = 64 by omega]; rfl
theorem pow_pos (s : Nat) : (0 : Int) < 2 ^ s := Int.pow_pos (by decide)
theorem quoZ (x z : Int) (h0 : 0 ≤ x) (h1 : x < 18446744073709551616) (hz : 1 ≤ z) : IntKind.u64.wrap (x.tdiv z) = x / z := by
  have h2 := Int.ediv_le_self z h0
  have h3 := Int.ediv_nonneg h0 (show 0 ≤ z by omega)
  rw [Int.tdiv_eq_ediv_of_nonneg h0, IntKind.wrap_u64]
  omega
theorem subZ {b l : Int} (U a : Int) (h : Hyp a b U l) : IntKind.u64.wrap (U - IntKind.u64.wrap (U / a * a)) = U - U / a * a := by
  have i := Inv.start h
  have h1 := start_lt h
  have h2 := i.r0
  simp only [IntKind.wrap_u64]
  omega
theorem restZ (U l M : Int) (h0 : 0 ≤ U * 4294967296 + l - M) (h1 : U * 4294967296 + l - M < 18446744073709551616) :
    IntKind.u64.wrap (IntKind.u64.wrap (IntKind.u64.wrap (U * 4294967296) + l) - IntKind.u64.wrap M) = U * 4294967296 + l - M := by
  simp only [IntKind.wrap_u64]
  omega
end Dv
set_option maxHeartbeats 2000000 in
theorem div_pos (hi lo y : Int) (w : World) (h1 : 0 < hi) (h2 : hi < y) (h3 : 0 ≤ lo) (h4 : lo < 18446744073709551616) (h5 : y < 18446744073709551616) :
  Calls Tryz.prog 215 #[.int .u64 hi, .int .u64 lo, .int .u64 y] w fun e w' => e = .returned (.tuple #[.int .u64 ((hi * 18446744073709551616 + lo) / y), .int .u64 ((hi * 18446744073709551616 + lo) % y)]) ∧ ∃ n, w' = w.drewN n := by
  have hy : ¬ y = 0 := by omega
  have hh : ¬ hi = 0 := by omega
  obtain ⟨s, hs, k1, k2, HL⟩ := lead_any y w (by omega) (by omega)
  have hsI : (s : Int) ≤ 63 := by omega
  have HL := Lib.hid HL
  have cpos := Dv.pow_pos s
  have dpos := Dv.pow_pos (64 - s)
  have cd := Dv.pow_ab hs
  have hic : 0 ≤ hi * 2 ^ s := Int.mul_nonneg (by omega) (by omega)
  have hiy : hi * 2 ^ s ≤ (y - 1) * 2 ^ s := Int.mul_le_mul_of_nonneg_right (by omega) (by omega)
  rw [Int.sub_mul, Int.one_mul] at hiy
  have lod0 : 0 ≤ lo / 2 ^ (64 - s) := Int.ediv_nonneg h3 (by omega)
  have lod1 : lo / 2 ^ (64 - s) < 2 ^ s := (Int.ediv_lt_iff_lt_mul dpos).2 (by rw [cd]; omega)
  have lod2 : lo / 2 ^ (64 - s) ≤ lo := Int.ediv_le_self _ h3
  obtain ⟨W1, W2⟩ := Dv.whole (hi := hi) (lo := lo) (y := y) cpos cd dpos (by omega)
  have eY := Dv.maskZ (y * 2 ^ s) (by omega) k2
  have eH : IntKind.u64.wrap (hi * 2 ^ s) = hi * 2 ^ s := by rw [IntKind.wrap_u64]; omega
  have eU := Dv.orZ hi (lo / 2 ^ (64 - s)) s (by omega) lod0 (by omega) lod1 (by omega)
  have eL : IntKind.u64.wrap (lo * 2 ^ s) = lo * 2 ^ s % 18446744073709551616 := by rw [IntKind.wrap_u64]
  have eM := Dv.maskZ (lo * 2 ^ s % 18446744073709551616) (Int.emod_nonneg _ (by decide)) (Int.emod_lt_of_pos _ (by decide))
  have yq : ∃ Y, Y = y * 2 ^ s := ⟨_, rfl⟩
  obtain ⟨Y, hY⟩ := yq
  have uq : ∃ U, U = hi * 2 ^ s + lo / 2 ^ (64 - s) := ⟨_, rfl⟩
  obtain ⟨U, hU⟩ := uq
  have lq : ∃ L, L = lo * 2 ^ s % 18446744073709551616 := ⟨_, rfl⟩
  obtain ⟨L, hL⟩ := lq
  have hL0 : 0 ≤ L := by rw [hL]; exact Int.emod_nonneg _ (by decide)
  have hL1 : L < 18446744073709551616 := by rw [hL]; exact Int.emod_lt_of_pos _ (by decide)
  have EY := Lib.hid eY; have EH := Lib.hid eH; have EU := Lib.hid eU; have EL := Lib.hid eL; have EM := Lib.hid eM
  have HY := Lib.hid hY; have HU := Lib.hid hU; have HL2 := Lib.hid hL
  have W1 := Lib.hid W1; have W2 := Lib.hid W2
  have y1 : 9223372036854775808 ≤ Y := by rw [hY]; exact k1
  have y2 : Y < 18446744073709551616 := by rw [hY]; exact k2
  have u1 : 0 ≤ U := by rw [hU]; omega
  have u2 : U < Y := by rw [hU, hY]; omega
  have hne : ¬ y * 2 ^ s / 4294967296 = 0 := by omega
  clear eY eH eU eL eM hY hU hL cpos dpos cd hic hiy lod0 lod1 lod2
  go_enter Tryz.func215, Tryz.ntmps215
  go_upto_block 0 with (go_at_call 217; refine (HL.out).mono ?_; rintro e w' ⟨rfl, rfl⟩)
  rw [EY.out, EH.out, EU.out, EL.out, EM.out, ← HY.out, ← HU.out, ← HL2.out]
  have b0 : 0 ≤ Y % 4294967296 := by omega
  have b1 : Y % 4294967296 < 4294967296 := by omega
  have a0 : 2147483648 ≤ Y / 4294967296 := by omega
  have a1 : Y / 4294967296 < 4294967296 := by omega
  have l0 : 0 ≤ L % 4294967296 := by omega
  have l1 : L % 4294967296 < 4294967296 := by omega
  have l2 : 0 ≤ L / 4294967296 := by omega
  have l3 : L / 4294967296 < 4294967296 := by omega
  have hYY : Y = Y / 4294967296 * 4294967296 + Y % 4294967296 := by omega
  have hLL : L = L / 4294967296 * 4294967296 + L % 4294967296 := by omega
  have HYY := Lib.hid hYY; have HLL := Lib.hid hLL; clear hYY hLL
  generalize Y / 4294967296 = a at *
  generalize Y % 4294967296 = b at *
  generalize L / 4294967296 = m at *
  generalize L % 4294967296 = n at *
  have HH : Dv.Hyp a b U m := ⟨a0, a1, b0, b1, u1, by have := HYY.out; omega, l2, l3⟩
  rw [Dv.quoZ U a u1 (by omega) (by omega), Dv.subZ U a HH]
  have I0 := Lib.hid (Dv.Inv.start HH)
  have s0 := I0.out.r0
  have s1 := Dv.start_lt HH
  have s2 : 0 ≤ U / a := Int.ediv_nonneg u1 (by omega)
  have s3 := I0.out.le
  generalize U / a = Q0 at *
  generalize U - Q0 * a = R0 at *
  have HQ := Lib.hid HH
  clear HH
  go_cut [15, 16] (fun q r wx => wx = w' ∧ q = .int .u64 (Dv.Q a b U m))
  case first =>
    go_wp2_with (fail)
    go_loop [15, 16] (fun q r => ∃ c d : Int, q = .int .u64 c ∧ r = .int .u64 d ∧ 0 ≤ c ∧ c ≤ 4294967297 ∧ 0 ≤ d ∧ d < 4294967296 ∧ Hid (Dv.Inv a b U m c d)) (fun q _ => (intOf q).toNat)
    case atStart => exact ⟨_, _, rfl, rfl, s2, s3, s0, s1, I0⟩
    case round =>
      obtain ⟨c, d, rfl, rfl, c0, c1, d0, d1, HI⟩ := hrel
      have HB : c < 4294967296 → 0 ≤ c * b ∧ c * b ≤ 18446744069414584320 := fun h => Dv.mul_bd HQ.out c0 (by omega)
      have HB := Lib.hid HB
      have exit2 : c - 1 ≤ 4294967296 := by omega
      by_cases hc1 : 4294967296 ≤ c
      · have hI := Dv.Inv.down HQ.out HI.out (.inl hc1)
        have hI2 := Lib.hid hI
        by_cases hd : 4294967296 ≤ d + a
        · have hE := Lib.hid (Dv.Inv.leave HQ.out hI exit2 hd)
          clear hI
          go_wp2
          go_meet
          case rel => exact ⟨rfl, by rw [hE.out]⟩
        · clear hI
          go_wp2
          go_round
          case rel => exact ⟨_, _, rfl, rfl, by omega, by omega, by omega, by omega, hI2⟩
          case measure => simp [intOf]; omega
      · obtain ⟨m0, m1⟩ := HB.out (by omega)
        by_cases hc2 : 4294967296 * d + m < c * b
        · have hI := Dv.Inv.down HQ.out HI.out (.inr hc2)
          have hI2 := Lib.hid hI
          have hcp : 0 < c := by
            rcases Int.lt_or_eq_of_le c0 with h | h
            · exact h
            · rw [← h] at hc2; simp at hc2; omega
          by_cases hd : 4294967296 ≤ d + a
          · have hE := Lib.hid (Dv.Inv.leave HQ.out hI exit2 hd)
            clear hI
            go_wp2
            go_meet
            case rel => exact ⟨rfl, by rw [hE.out]⟩
          · clear hI
            go_wp2
            go_round
            case rel => exact ⟨_, _, rfl, rfl, by omega, by omega, by omega, by omega, hI2⟩
            case measure => simp [intOf]; omega
        · have hE := Lib.hid (Dv.Inv.stop HQ.out HI.out (by omega))
          go_wp2
          go_meet
          case rel => exact ⟨rfl, by rw [hE.out]⟩
  case rest =>
    obtain ⟨wd, rfl⟩ : ∃ wd : World, wd = wc := ⟨_, rfl⟩
    obtain ⟨rfl, rfl⟩ := hcut
    have q0 := Dv.Hyp.nn HQ.out
    have q1 := Dv.Hyp.lt HQ.out
    obtain ⟨rb0, rb1⟩ := Dv.rest_bd HQ.out
    rw [← HYY.out] at rb0 rb1
    have eR := Dv.restZ U m (Dv.Q a b U m * Y) rb0 (by omega)
    have ER := Lib.hid eR
    clear eR
    go_upto_block 2 with (fail)
    rw [ER.out]
    have HK : Dv.Hyp a b (U * 4294967296 + m - Dv.Q a b U m * Y) n := ⟨a0, a1, b0, b1, rb0, by have := HYY.out; omega, l0, l1⟩
    obtain ⟨T1, T2⟩ := Dv.two HQ.out (by rw [← HYY.out]; exact HK)
    rw [← HYY.out] at T1 T2
    have T1 := Lib.hid T1; have T2 := Lib.hid T2
    have hR : ∃ R, R = U * 4294967296 + m - Dv.Q a b U m * Y := ⟨_, rfl⟩
    obtain ⟨R, hR⟩ := hR
    rw [← hR] at HK rb0 rb1 ⊢
    have HR := Lib.hid hR
    clear hR
    rw [Dv.quoZ R a rb0 (by omega) (by omega), Dv.subZ R a HK]
    have J0 := Lib.hid (Dv.Inv.start HK)
    have t0 := J0.out.r0
    have t1 := Dv.start_lt HK
    have t2 : 0 ≤ R / a := Int.ediv_nonneg rb0 (by omega)
    have t3 := J0.out.le
    generalize R / a = Q1 at *
    generalize R - Q1 * a = R1 at *
    have HK := Lib.hid HK
    go_cut [16, 18] (fun r q wx => wx = wd ∧ q = .int .u64 (Dv.Q a b R n))
    case first =>
      go_wp2_with (fail)
      go_loop [16, 18] (fun r q => ∃ c d : Int, q = .int .u64 c ∧ r = .int .u64 d ∧ 0 ≤ c ∧ c ≤ 4294967297 ∧ 0 ≤ d ∧ d < 4294967296 ∧ Hid (Dv.Inv a b R n c d)) (fun _ q => (intOf q).toNat)
      case atStart => exact ⟨_, _, rfl, rfl, t2, t3, t0, t1, J0⟩
      case round =>
        obtain ⟨c, d, rfl, rfl, c0, c1, d0, d1, HI⟩ := hrel
        have HB : c < 4294967296 → 0 ≤ c * b ∧ c * b ≤ 18446744069414584320 := fun h => Dv.mul_bd HK.out c0 (by omega)
        have HB := Lib.hid HB
        have exit2 : c - 1 ≤ 4294967296 := by omega
        by_cases hc1 : 4294967296 ≤ c
        · have hI := Dv.Inv.down HK.out HI.out (.inl hc1)
          have hI2 := Lib.hid hI
          by_cases hd : 4294967296 ≤ d + a
          · have hE := Lib.hid (Dv.Inv.leave HK.out hI exit2 hd)
            clear hI
            go_wp2
            go_meet
            case rel => exact ⟨rfl, by rw [hE.out]⟩
          · clear hI
            go_wp2
            go_round
            case rel => exact ⟨_, _, rfl, rfl, by omega, by omega, by omega, by omega, hI2⟩
            case measure => simp [intOf]; omega
        · obtain ⟨m0, m1⟩ := HB.out (by omega)
          by_cases hc2 : 4294967296 * d + n < c * b
          · have hI := Dv.Inv.down HK.out HI.out (.inr hc2)
            have hI2 := Lib.hid hI
            have hcp : 0 < c := by
              rcases Int.lt_or_eq_of_le c0 with h | h
              · exact h
              · rw [← h] at hc2; simp at hc2; omega
            by_cases hd : 4294967296 ≤ d + a
            · have hE := Lib.hid (Dv.Inv.leave HK.out hI exit2 hd)
              clear hI
              go_wp2
              go_meet
              case rel => exact ⟨rfl, by rw [hE.out]⟩
            · clear hI
              go_wp2
              go_round
              case rel => exact ⟨_, _, rfl, rfl, by omega, by omega, by omega, by omega, hI2⟩
              case measure => simp [intOf]; omega
          · have hE := Lib.hid (Dv.Inv.stop HK.out HI.out (by omega))
            go_wp2
            go_meet
            case rel => exact ⟨rfl, by rw [hE.out]⟩
    case rest =>
      obtain ⟨we, rfl⟩ : ∃ we : World, we = wc := ⟨_, rfl⟩
      obtain ⟨rfl, rfl⟩ := hcut
      have p0 := Dv.Hyp.nn HK.out
      have p1 := Dv.Hyp.lt HK.out
      obtain ⟨rc0, rc1⟩ := Dv.rest_bd HK.out
      rw [← HYY.out] at rc0 rc1
      have e1 : Dv.Q a b U m * 4294967296 + Dv.Q a b R n = (hi * 18446744073709551616 + lo) / y := by
        rw [HR.out, T1.out, ← HLL.out, HL2.out, HY.out, HU.out]
        exact W1.out
      have e2 : IntKind.u64.wrap (IntKind.u64.wrap (IntKind.u64.wrap (R * 4294967296) + n) - IntKind.u64.wrap (Dv.Q a b R n * Y)) / 2 ^ s = (hi * 18446744073709551616 + lo) % y := by
        rw [Dv.restZ R n _ rc0 (by omega), HR.out, T2.out, ← HLL.out, HL2.out, HY.out, HU.out]
        exact W2.out
      have E1 := Lib.hid e1; have E2 := Lib.hid e2; clear e1 e2
      go_wp2
      go_ret2
      exact ⟨by rw [E1.out, E2.out]; rfl, 0, rfl⟩
set_option maxHeartbeats 1000000 in
theorem div_zero (lo y : Int) (w : World) (h2 : 0 < y) (h3 : 0 ≤ lo) (h4 : lo < 18446744073709551616) (h5 : y < 18446744073709551616) :
    Calls Tryz.prog 215 #[.int .u64 0, .int .u64 lo, .int .u64 y] w fun e w' => e = .returned (.tuple #[.int .u64 (lo / y), .int .u64 (lo % y)]) ∧ ∃ n, w' = w.drewN n := by
  have hy : ¬ y = 0 := by omega
  go_enter Tryz.func215, Tryz.ntmps215
  go_wp2
  go_quiet (fail)
  go_wp2
  go_ret2
  exact ⟨rfl, _, rfl⟩
theorem div64_said : Div64Said := by
  intro hi lo y w h1 h2 h3 h4 h5
  rcases Int.lt_or_eq_of_le h1 with h | h
  · exact div_pos hi lo y w h h2 h3 h4 h5
  · subst h
    rw [Int.zero_mul, Int.zero_add]
    exact div_zero lo y w h2 h3 h4 h5
end Go.Proofs.YteomcpplajeidaaGreat
