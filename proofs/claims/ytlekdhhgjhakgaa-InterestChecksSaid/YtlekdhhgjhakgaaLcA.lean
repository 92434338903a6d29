/-
  Rows of arguments as lists of holdings and of relations, for an append. Nothing is asked.
-/
import Derived.Test.YtlekdhhgjhakgaaJnE
namespace Go.Proofs.Ytlekdhhgjhakgaa
set_option linter.unusedVariables false
set_option linter.unusedSimpArgs false
open Go.RowKit
theorem flat_row {α : Type} {cs : α → List Value} {sz : Nat} (hc : ∀ u, (cs u).length = sz) : ∀ (us : List α) (j : Nat) (v : Value), (us.flatMap cs)[j]? = some v → ∃ k, ∃ h : k < us.length, ∃ r, r < sz ∧ j = k * sz + r ∧ (cs us[k])[r]? = some v
  | [], j, v, h => by simp at h
  | u :: us, j, v, h => by
    rw [List.flatMap_cons] at h
    rcases Nat.lt_or_ge j sz with hj | hj
    · rw [List.getElem?_append_left (by rw [hc]; exact hj)] at h
      exact ⟨0, by simp, j, hj, by simp, h⟩
    · rw [List.getElem?_append_right (by rw [hc]; exact hj), hc] at h
      obtain ⟨k, hk, r, hr, e, hv⟩ := flat_row hc us _ v h
      exact ⟨k + 1, by simpa using hk, r, hr, by rw [Nat.add_mul]; omega, by simpa using hv⟩
def hoOf (z : List Int) : Ho := ⟨z.getD 0 0, z.getD 1 0, z.getD 2 0⟩
def reOf (z : List Int) : Int × Int := (z.getD 0 0, z.getD 1 0)
theorem rn_ok {n : Nat} {w : World} {v : Value} {ls : List (List Int)} (h : RN n w v ls) {z : List Int} (hz : z ∈ ls) (j : Nat) : OkI (z.getD j 0) := by
  obtain ⟨A, cap, h1, h2, h3, h4⟩ := h
  rw [List.getD_eq_getElem?_getD]
  rcases Nat.lt_or_ge j z.length with hj | hj
  · rw [List.getElem?_eq_getElem hj]
    exact (h3 z hz).2 _ (List.getElem_mem _)
  · rw [List.getElem?_eq_none hj]
    exact okI_small (by decide)
/-- The first m rows, as a source of an append. -/
theorem rn_src {α : Type} {cs : α → List Value} {n : Nat} (f : List Int → α) (hcs : ∀ z, cs (f z) = (List.range n).map fun j => Value.int .i64 (z.getD j 0)) (hc : ∀ u, (cs u).length = n)
    {w : World} {A : Option Addr} {c : Nat} {ls : List (List Int)} (h : RN n w (.slice A ls.length c) ls) (m : Nat) (hm : m ≤ ls.length) :
    ((ls.take m).map f).length = m ∧ ((ls.take m).map f = [] ∨ ∃ b off, A = some ⟨b, off, none⟩ ∧ ∀ j u, (((ls.take m).map f).flatMap cs)[j]? = some u → w.cell? ⟨b, off + j, none⟩ = some u) := by
  have hl : ((ls.take m).map f).length = m := by rw [List.length_map, List.length_take, Nat.min_eq_left hm]
  refine ⟨hl, ?_⟩
  rcases Nat.eq_zero_or_pos m with rfl | hpos
  · exact .inl (by simp)
  · obtain ⟨b, off, ha, -, -⟩ := h.at 0 (by omega)
    refine .inr ⟨b, off, ha, fun j u hj => ?_⟩
    obtain ⟨k, hk, r, hr, rfl, hv⟩ := flat_row hc _ j u hj
    have hkl : k < ls.length := by rw [hl] at hk; omega
    obtain ⟨b2, off2, ha2, hcell, -⟩ := h.at k hkl
    rw [ha] at ha2
    injection ha2 with ha2
    injection ha2 with e1 e2 e3
    subst e1 e2
    have e : ((ls.take m).map f)[k] = f ls[k] := by simp
    rw [e, hcs] at hv
    rw [List.getElem?_map, List.getElem?_range hr] at hv
    injection hv with hv
    rw [← Nat.add_assoc, hcell r hr]
    exact congrArg some hv
end Go.Proofs.Ytlekdhhgjhakgaa
