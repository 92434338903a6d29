/-
  The hash as a function of a string's bytes. Plain.
-/
import Derived.Test.YtbeoihjfjkbfhaaShF
namespace Go.Proofs.Ytbeoihjfjkbfhaa
set_option linter.unusedVariables false
set_option linter.unusedSimpArgs false
open Go.RowKit

def padV (l : List Int) : List Int :=
  l ++ [128] ++ List.replicate ((120 - (l.length + 1) % 64) % 64) 0 ++ byteS (((8 * l.length : Nat) : Int) / 4294967296) ++ byteS (((8 * l.length : Nat) : Int) % 4294967296)
theorem byteS_len (x : Int) : (byteS x).length = 4 := rfl
theorem byteS_in (x : Int) : ∀ y ∈ byteS x, 0 ≤ y ∧ y < 256 := by
  intro y hy
  simp only [byteS, List.mem_cons, List.not_mem_nil, or_false] at hy
  rcases hy with rfl | rfl | rfl | rfl <;> omega
theorem padV_len (l : List Int) : (padV l).length = l.length + 1 + (120 - (l.length + 1) % 64) % 64 + 8 := by
  unfold padV
  simp [byteS_len]
  omega
theorem padV_mod (l : List Int) : (padV l).length % 64 = 0 := by
  rw [padV_len]
  omega
theorem padV_in {l : List Int} (h : ∀ x ∈ l, 0 ≤ x ∧ x < 256) : ∀ x ∈ padV l, 0 ≤ x ∧ x < 256 := by
  intro x hx
  unfold padV at hx
  simp only [List.mem_append, List.mem_replicate, List.mem_cons, List.not_mem_nil, or_false] at hx
  rcases hx with (((hx | rfl) | ⟨-, rfl⟩) | hx) | hx
  · exact h x hx
  · omega
  · omega
  · exact byteS_in _ x hx
  · exact byteS_in _ x hx
def S0 : S8 := ⟨1779033703, 3144134277, 1013904242, 2773480762, 1359893119, 2600822924, 528734635, 1541459225⟩
theorem S0_l : S0.l = H8 := rfl
/-- The state behind k blocks. -/
def absorb (m : List Int) : Nat → S8
  | 0 => S0
  | k + 1 => blockS (absorb m k) ((m.drop (64 * k)).take 64)
def outV (s : S8) : List Int := s.l.flatMap byteS
/-- The hash. -/
def sumV (l : List Int) : List Int := outV (absorb (padV l) ((padV l).length / 64))
theorem sumV_len (l : List Int) : (sumV l).length = 32 := rfl
theorem bytesI_in (s : ByteArray) : ∀ x ∈ bytesI s, 0 ≤ x ∧ x < 256 := by
  intro x hx
  obtain ⟨b, -, rfl⟩ := List.mem_map.1 hx
  have := b.toNat_lt
  omega
end Go.Proofs.Ytbeoihjfjkbfhaa
