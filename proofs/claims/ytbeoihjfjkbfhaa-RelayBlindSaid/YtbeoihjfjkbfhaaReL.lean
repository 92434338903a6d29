/-
  Mod, Text, Same. Condition: what lies in memory.
-/
import Derived.Test.YtbeoihjfjkbfhaaReK
namespace Go.Proofs.Ytbeoihjfjkbfhaa
set_option linter.unusedVariables false
set_option linter.unusedSimpArgs false
open Go.RowKit
theorem tmod_bd (n : Int) {m : Int} (hm : 0 < m) : -m < n.tmod m ∧ n.tmod m < m := by
  have h1 := Int.tmod_lt_of_pos n hm
  have h2 := Int.tmod_lt_of_pos (-n) hm
  rw [Int.neg_tmod] at h2
  exact ⟨by omega, h1⟩
theorem modZ_eq (n m : Int) : (n.tmod m + m) % m = n % m := by
  rw [Int.add_emod_right]
  conv => rhs; rw [← Int.tmod_add_mul_tdiv n m]
  rw [Int.add_mul_emod_self_left]
theorem modZ_bd (n : Int) {m : Int} (hm : 0 < m) : 0 ≤ n % m ∧ n % m < m :=
  ⟨Int.emod_nonneg _ (by omega), Int.emod_lt_of_pos _ hm⟩

set_option maxHeartbeats 400000 in
theorem mod_any (n m : Int) (hm : 0 < m) (hm2 : m ≤ 1000000) (h : OkI n) (w : World) :
    Calls Try.prog 24 #[.int .i64 n, .int .i64 m] w fun e w' => e = .returned (.int .i64 (n % m)) ∧ w = w' := by
  obtain ⟨h1, h2⟩ := h
  have hm0 : ¬ m = 0 := by omega
  have b := tmod_bd n hm
  have HE := Lib.hid (modZ_eq n m)
  go_enter Try.func24, Try.ntmps24
  go_wp2
  go_ret
  exact ⟨by rw [HE.out]; rfl, rfl⟩

def txtF (n : Int) : ByteArray := if n % 12 = 11 then ⟨#[]⟩ else ⟨#[UInt8.ofNat (97 + n % 12).toNat, 63]⟩
set_option maxRecDepth 100000 in
set_option maxHeartbeats 1000000 in
theorem text_any (n : Int) (w : World) (h : OkI n) : Calls Try.prog 25 #[.int .i64 n] w fun e w' => e = .returned (.string (txtF n)) ∧ Ext w w' := by
  have hM := mod_any n 12 (by decide) (by decide) h w
  obtain ⟨k, hk⟩ : ∃ k, k = n % 12 := ⟨_, rfl⟩
  have k0 : 0 ≤ k := by omega
  have k1 : k < 12 := by omega
  have HT : Hid (txtF n = if k = 11 then ⟨#[]⟩ else ⟨#[UInt8.ofNat (97 + k).toNat, 63]⟩) := Lib.hid (by rw [hk]; rfl)
  rw [← hk] at hM
  clear hk
  by_cases hk11 : k = 11
  · subst hk11
    rw [HT.out, if_pos rfl]
    go_enter Try.func25, Try.ntmps25
    go_wp2_with (go_at_call 24; (with_reducible refine hM.mono ?_); rintro e w1 ⟨rfl, rfl⟩)
    go_ret
    exact ⟨rfl, Ext.refl _⟩
  · have HK := Lib.hid hk11
    have hcv := run_convert_bytes_arg (P := Try.prog) (w.alloc (.cells #[.int .u8 (97 + k)] 5)) 51 5 Try.underlying51 Try.underlying5 w.heap.size 0 1 1 [97 + k] rfl (fun i hi => by
      obtain rfl : i = 0 := by omega
      exact cell_of_row _ _ 0 _ _ _ (alloc_at w _)) 9 Try.underlying9
    obtain ⟨s1, hs1⟩ : ∃ s1, s1 = strOfNums [97 + k] := ⟨_, rfl⟩
    rw [← hs1] at hcv
    have hsz : s1.size = 1 := by rw [hs1, strOfNums_size]; rfl
    have HS1 : Hid (s1 ++ ⟨#[63]⟩ = txtF n) := Lib.hid (by
      rw [HT.out, if_neg hk11, hs1]
      rfl)
    clear hs1
    go_enter Try.func25, Try.ntmps25
    go_wp2_with (go_at_call 24; (with_reducible refine hM.mono ?_); rintro e w1 ⟨rfl, rfl⟩)
    go_ret
    exact ⟨by rw [← HS1.out]; rfl, Ext.alloc (Ext.refl _) _⟩
end Go.Proofs.Ytbeoihjfjkbfhaa
