/-
  The plain law of the median: how many are not greater, how many not less, and that it does not fall. Nothing is asked.
-/
import Derived.Test.YtnplnfkmcfalhaaGreatDoorSoA
namespace Go.Proofs.YtnplnfkmcfalhaaGreatDoor
set_option linter.unusedVariables false
set_option linter.unusedSimpArgs false
open Go.RowKit

theorem srtI_perm (l : List Int) : (srtI l).Perm l := List.mergeSort_perm _ _
theorem srtI_sorted (l : List Int) : (srtI l).Pairwise (· ≤ ·) := by
  have hs := List.pairwise_mergeSort (le := fun x y : Int => decide (x ≤ y)) (fun a b c h1 h2 => by simp only [decide_eq_true_eq] at *; omega) (fun a b => by simp only [Bool.or_eq_true, decide_eq_true_eq]; omega) l
  exact hs.imp (by simp)
theorem srtI_of_perm {l m : List Int} (h : l.Perm m) : srtI l = srtI m := by
  have h1 : (srtI l).Perm (srtI m) := (srtI_perm l).trans (h.trans (srtI_perm m).symm)
  exact h1.eq_of_pairwise (le := (· ≤ ·)) (fun a b _ _ h1 h2 => by omega) (srtI_sorted l) (srtI_sorted m)
/-- In an increasing list the first m+1 are at most the one at m; those from m on at least. -/
theorem cnt_le {s : List Int} (hs : s.Pairwise (· ≤ ·)) {m : Nat} (hm : m < s.length) : m + 1 ≤ s.countP (fun x => decide (x ≤ s[m])) ∧ s.length - m ≤ s.countP (fun x => decide (s[m] ≤ x)) := by
  have hp := List.pairwise_iff_getElem.1 hs
  constructor
  · have h1 : (s.take (m + 1)).countP (fun x => decide (x ≤ s[m])) = (s.take (m + 1)).length := by
      rw [List.countP_eq_length]
      intro x hx
      obtain ⟨i, hi, rfl⟩ := List.getElem_of_mem hx
      rw [List.length_take] at hi
      rw [List.getElem_take]
      by_cases e : i = m
      · subst e; simp
      · simpa using hp i m (by omega) hm (by omega)
    have h2 := List.countP_append (p := fun x => decide (x ≤ s[m])) (l₁ := s.take (m + 1)) (l₂ := s.drop (m + 1))
    rw [List.take_append_drop] at h2
    rw [h2, h1, List.length_take]
    omega
  · have h1 : (s.drop m).countP (fun x => decide (s[m] ≤ x)) = (s.drop m).length := by
      rw [List.countP_eq_length]
      intro x hx
      obtain ⟨i, hi, rfl⟩ := List.getElem_of_mem hx
      rw [List.length_drop] at hi
      rw [List.getElem_drop]
      by_cases e : i = 0
      · subst e; simp
      · simpa using hp m (m + i) hm (by omega) (by omega)
    have h2 := List.countP_append (p := fun x => decide (s[m] ≤ x)) (l₁ := s.take m) (l₂ := s.drop m)
    rw [List.take_append_drop] at h2
    rw [h2, h1, List.length_drop]
    omega
/-- The median of numbers. -/
def med (xs : List Int) : Int := (srtI xs).getD ((xs.length - 1) / 2) 0
theorem med_get {xs : List Int} (h : 0 < xs.length) : (srtI xs)[(xs.length - 1) / 2]? = some (med xs) := by
  unfold med
  have hl := srtI_len xs
  rw [List.getD_eq_getElem?_getD, List.getElem?_eq_getElem (by omega)]
  rfl
theorem med_mem {xs : List Int} (h : 0 < xs.length) : med xs ∈ xs := mem_srtI.1 (List.mem_of_getElem? (med_get h))
def nLess (v : Int) (xs : List Int) : Nat := xs.countP (fun x => decide (x < v))
def nMore (v : Int) (xs : List Int) : Nat := xs.countP (fun x => decide (v < x))
def nEq (v : Int) (xs : List Int) : Nat := xs.countP (fun x => decide (x = v))
theorem le_split (v : Int) (xs : List Int) : xs.countP (fun x => decide (x ≤ v)) = nLess v xs + nEq v xs ∧ xs.countP (fun x => decide (v ≤ x)) = nMore v xs + nEq v xs ∧ nLess v xs + nMore v xs + nEq v xs = xs.length := by
  unfold nLess nMore nEq
  induction xs with
  | nil => simp
  | cons x xs ih =>
    simp only [List.countP_cons, decide_eq_true_eq, List.length_cons]
    split <;> split <;> split <;> split <;> (try split) <;> omega
theorem med_half {xs : List Int} (h : 0 < xs.length) : 0 < nEq (med xs) xs ∧ xs.length ≤ 2 * (nLess (med xs) xs + nEq (med xs) xs) ∧ xs.length < 2 * (nMore (med xs) xs + nEq (med xs) xs) := by
  have hl := srtI_len xs
  have hm : (xs.length - 1) / 2 < (srtI xs).length := by omega
  have hv : (srtI xs)[(xs.length - 1) / 2] = med xs := by
    have := med_get h
    rw [List.getElem?_eq_getElem hm] at this
    exact Option.some.inj this
  obtain ⟨h1, h2⟩ := cnt_le (srtI_sorted xs) hm
  rw [hv] at h1 h2
  rw [(srtI_perm xs).countP_eq] at h1 h2
  obtain ⟨s1, s2, -⟩ := le_split (med xs) xs
  rw [s1] at h1
  rw [s2] at h2
  refine ⟨?_, by omega, by omega⟩
  unfold nEq
  rw [List.countP_pos_iff]
  exact ⟨med xs, med_mem h, by simp⟩
theorem med_mono {xs ys : List Int} (hl : xs.length = ys.length) (h : ∀ i (h1 : i < xs.length) (h2 : i < ys.length), xs[i] ≤ ys[i]) (h0 : 0 < xs.length) : med xs ≤ med ys := by
  by_cases hlt : med xs ≤ med ys
  · exact hlt
  · have a := (med_half (xs := ys) (by omega)).2.1
    have b := (med_half h0).2.2
    have hm := (le_split (med xs) xs).2.2
    have hc : nLess (med ys) ys + nEq (med ys) ys ≤ nLess (med xs) xs := by
      rw [← (le_split (med ys) ys).1]
      unfold nLess
      clear a b hm h0
      generalize med xs = u at *
      generalize med ys = v at *
      induction xs generalizing ys with
      | nil =>
        cases ys with
        | nil => simp
        | cons y ys => simp at hl
      | cons x xs ih =>
        cases ys with
        | nil => simp at hl
        | cons y ys =>
          have hxy := h 0 (by simp) (by simp)
          simp only [List.getElem_cons_zero] at hxy
          have := ih (ys := ys) (by simpa using hl) (fun i h1 h2 => by
            have := h (i + 1) (by simpa using h1) (by simpa using h2)
            simpa using this)
          simp only [List.countP_cons, decide_eq_true_eq]
          split <;> split <;> omega
    omega
end Go.Proofs.YtnplnfkmcfalhaaGreatDoor
