/-
  A thousand questions. Plain.
-/
import Derived.Test.YtbeoihjfjkbfhaaWtP
namespace Go.Proofs.Ytbeoihjfjkbfhaa
set_option linter.unusedVariables false
set_option linter.unusedSimpArgs false
open Go.RowKit
def tQ : ByteArray := ⟨#[113]⟩
def mL (i : Nat) : List (Qn × Int) := (List.range (min i 1000)).map fun k : Nat => (⟨(k : Int), tQ⟩, 0)
def mS (i : Nat) : Rl := ⟨1, 10, mL i, 0, decide (0 < i), false⟩
theorem mL_len (i : Nat) : (mL i).length = min i 1000 := by simp [mL]
theorem mL_not (i : Nat) : ¬ (⟨(i : Int), tQ⟩ : Qn) ∈ (mL i).map (·.1) := by
  unfold mL
  intro h
  simp only [List.map_map, List.mem_map, List.mem_range, Function.comp, Qn.mk.injEq, and_true] at h
  obtain ⟨k, h1, h2⟩ := h
  omega
theorem mS_err (i : Nat) : askE (mS i) ⟨i, tQ⟩ 0 = if i < 1000 then 0 else 2 := by
  unfold askE
  rw [if_neg (show ¬ (tQ.size = 0 ∨ 4000 < tQ.size) by decide), if_neg (show ¬ (mS i).closed = true by simp [mS]), if_neg (show ¬ ((mS i).timed = true ∧ (0 : Int) < (mS i).last) by simp [mS]), if_neg (show ¬ (⟨(i : Int), tQ⟩ : Qn) ∈ (mS i).l.map (·.1) from mL_not i)]
  have : (mS i).l.length = min i 1000 := mL_len i
  rw [this]
  by_cases h : i < 1000
  · rw [if_neg (by omega), if_pos h]
  · rw [if_pos (by omega), if_neg h]
theorem mS_step (i : Nat) : askR (mS i) ⟨i, tQ⟩ 0 = mS (i + 1) := by
  unfold askR
  rw [mS_err]
  by_cases h : i < 1000
  · rw [if_pos h, if_pos rfl]
    unfold Rl.asked mS mL
    rw [show min (i + 1) 1000 = i + 1 by omega, show min i 1000 = i by omega, List.range_succ, List.map_append]
    simp [perF]
  · rw [if_neg h, if_neg (by decide)]
    unfold mS mL
    rw [show min (i + 1) 1000 = 1000 by omega, show min i 1000 = 1000 by omega]
    simp
    omega
/-- A text of n bytes. -/
def zT (n : Nat) : ByteArray := strOfNums (List.replicate n 0)
theorem zT_size (n : Nat) : (zT n).size = n := by unfold zT; rw [strOfNums_size]; simp
def z0 : Rl := ⟨1, 10, [], 0, false, false⟩
def z1 (n : Nat) : Rl := ⟨1, 10, [(⟨1, zT n⟩, 0)], 0, true, false⟩
theorem z_long {n : Nat} (h : 4000 < n) : askE z0 ⟨1, zT n⟩ 0 = 1 ∧ askR z0 ⟨1, zT n⟩ 0 = z0 := by
  have h1 : askE z0 ⟨1, zT n⟩ 0 = 1 := by
    unfold askE
    rw [if_pos (.inr (by rw [zT_size]; exact h))]
  exact ⟨h1, by unfold askR; rw [h1]; rfl⟩
theorem z_ok {n : Nat} (h : n ≤ 4000) (h0 : 0 < n) : askE z0 ⟨1, zT n⟩ 0 = 0 ∧ askR z0 ⟨1, zT n⟩ 0 = z1 n := by
  have h1 : askE z0 ⟨1, zT n⟩ 0 = 0 := by
    unfold askE
    rw [if_neg (by simp only [zT_size]; omega), if_neg (by decide), if_neg (by decide), if_neg (by simp [z0]), if_neg (by decide)]
  refine ⟨h1, ?_⟩
  unfold askR
  rw [if_pos h1]
  rfl
theorem z_twice {n : Nat} (h : n ≤ 4000) (h0 : 0 < n) : askE (z1 n) ⟨1, zT n⟩ 0 = 33 ∧ askR (z1 n) ⟨1, zT n⟩ 0 = z1 n := by
  have h1 : askE (z1 n) ⟨1, zT n⟩ 0 = 33 := by
    unfold askE
    rw [if_neg (by simp only [zT_size]; omega), if_neg (show ¬ (z1 n).closed = true by simp [z1]), if_neg (show ¬ ((z1 n).timed = true ∧ (0 : Int) < (z1 n).last) by simp [z1]), if_pos (by simp [z1])]
  exact ⟨h1, by unfold askR; rw [h1]; rfl⟩
end Go.Proofs.Ytbeoihjfjkbfhaa
