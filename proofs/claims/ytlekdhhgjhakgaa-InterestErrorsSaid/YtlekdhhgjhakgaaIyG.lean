/-
  Setups without conflicts. Plain.
-/
import Derived.Test.YtlekdhhgjhakgaaIyF
namespace Go.Proofs.Ytlekdhhgjhakgaa
set_option linter.unusedVariables false
set_option linter.unusedSimpArgs false
def errP (a : Nat) : List Pe := (List.range a).map fun (i : Nat) => (⟨100 + (i : Int), 3, 0⟩ : Pe)
def errB (n : Nat) : List Int := (List.range n).map fun (i : Nat) => 1 + (i : Int)
def errS (a : Nat) : Su := ⟨errP a, [], []⟩
theorem errP_len (a : Nat) : (errP a).length = a := by simp [errP]
theorem errB_len (n : Nat) : (errB n).length = n := by simp [errB]
theorem errP_succ (a : Nat) : errP (a + 1) = errP a ++ [⟨100 + (a : Int), 3, 0⟩] := by
  unfold errP
  rw [List.range_succ, List.map_append]
  rfl
theorem errB_succ (n : Nat) : errB (n + 1) = errB n ++ [1 + (n : Int)] := by
  unfold errB
  rw [List.range_succ, List.map_append]
  rfl
theorem errS_ok (a : Nat) (h : a ≤ 100) : (errS a).ok := by
  refine ⟨fun p hp => ?_, fun p hp => (by cases hp), fun p hp => (by cases hp), by show (errP a).length ≤ 1000; rw [errP_len]; omega, by simp [errS], by simp [errS]⟩
  obtain ⟨k, hk, rfl⟩ := List.mem_map.1 hp
  have := List.mem_range.1 hk
  exact ⟨okI_small ⟨by simp only; omega, by simp only; omega⟩, okI_small (by simp), okI_small (by simp)⟩
theorem errB_ok (n : Nat) (h : n ≤ 100) : ∀ z ∈ errB n, OkI z := fun z hz => by
  obtain ⟨k, hk, rfl⟩ := List.mem_map.1 hz
  have := List.mem_range.1 hk
  exact okI_small ⟨by omega, by omega⟩
theorem err_role (a : Nat) : ∀ i, (∃ p ∈ errP a, p.id = i) → roleF (errP a) i = 3 := by
  intro i ⟨p, hp, he⟩
  unfold roleF
  cases hf : (errP a).find? fun p => p.id == i with
  | none =>
    have := List.find?_eq_none.1 hf p hp
    simp [he] at this
  | some q =>
    have := List.mem_of_find?_eq_some hf
    obtain ⟨k, -, rfl⟩ := List.mem_map.1 this
    rfl
theorem err_asr (a : Nat) : asrF (errP a) = (List.range a).map fun (i : Nat) => 100 + (i : Int) := by
  refine (asrF_eq ?_ fun i => ?_).symm
  · rw [List.pairwise_map]
    exact List.pairwise_lt_range.imp fun h => by omega
  · constructor
    · intro h
      obtain ⟨k, hk, rfl⟩ := List.mem_map.1 h
      have hp : ∃ p ∈ errP a, p.id = 100 + (k : Int) := ⟨_, List.mem_map.2 ⟨k, hk, rfl⟩, rfl⟩
      exact ⟨err_role a _ hp, hp⟩
    · rintro ⟨-, p, hp, rfl⟩
      obtain ⟨k, hk, rfl⟩ := List.mem_map.1 hp
      exact List.mem_map.2 ⟨k, hk, rfl⟩
theorem err_asr_len (a : Nat) : (asrF (errP a)).length = a := by rw [err_asr]; simp
theorem err_free (a n : Nat) (hn : n ≤ 45) : ∀ p ∈ asrF (errS a).ps, ∀ b ∈ errB n, confF (errS a) p b = false := by
  intro p hp b hb
  change p ∈ asrF (errP a) at hp
  rw [err_asr] at hp
  obtain ⟨i, -, rfl⟩ := List.mem_map.1 hp
  obtain ⟨j, hj, rfl⟩ := List.mem_map.1 hb
  have := List.mem_range.1 hj
  have h1 : cirF [] (100 + (i : Int)) (1 + (j : Int)) = false := by
    unfold cirF stepC
    simp
    omega
  unfold confF
  show (cirF [] _ _ || decide (5 ≤ partsF [] _ _)) = false
  rw [h1]
  show decide ((5 : Int) ≤ 0) = false
  decide
theorem errB_nodup (n : Nat) : (errB n).Nodup := by
  unfold errB
  rw [List.Nodup, List.pairwise_map]
  exact List.pairwise_lt_range.imp fun h => by omega
theorem err_open (a n k : Nat) (hn : n ≤ 45) : openE (errS a) (errB n) k = if n < 1 ∨ 40 < n ∨ k < 1 ∨ 13 < k then 1 else if a < k then 24 else 0 := by
  have hr : rightF (errB n) k = decide (¬ (n < 1 ∨ 40 < n ∨ k < 1 ∨ 13 < k)) := by
    unfold rightF
    rw [errB_len, decide_eq_true (errB_nodup n), Bool.eq_iff_iff]
    simp only [Bool.and_eq_true, decide_eq_true_iff, and_true]
    omega
  unfold openE
  rw [hr]
  by_cases h1 : n < 1 ∨ 40 < n ∨ k < 1 ∨ 13 < k
  · rw [if_pos h1, if_pos (decide_eq_false fun h => h h1)]
  · rw [if_neg h1, if_neg (by rw [decide_eq_true h1]; decide)]
    show (if ((asrF (errP a)).length : Int) < k then 24 else _) = _
    rw [err_asr_len]
    by_cases h2 : a < k
    · rw [if_pos h2, if_pos (by omega)]
    · rw [if_neg h2, if_neg (by omega), if_neg]
      intro h3
      obtain ⟨l, hl, h4⟩ := List.any_eq_true.1 h3
      obtain ⟨b, hb, rfl⟩ := List.mem_map.1 hl
      have h5 : mayR (errS a) (asrF (errS a).ps) b = List.range (asrF (errS a).ps).length := by
        unfold mayR
        rw [List.filter_eq_self]
        intro i hi
        have hi' := List.mem_range.1 hi
        rw [getD_at hi', err_free a n hn _ (List.getElem_mem hi') b hb]
        rfl
      rw [h5] at h4
      have h6 := of_decide_eq_true h4
      rw [List.length_range, show (asrF (errS a).ps).length = a from err_asr_len a] at h6
      omega
theorem err_open2 (a n : Nat) (k : Int) : openE (errS a) (errB n ++ errB n) k = 1 := by
  have hr : rightF (errB n ++ errB n) k = false := by
    cases n with
    | zero => rfl
    | succ n =>
      have : ¬ (errB (n + 1) ++ errB (n + 1)).Nodup := by
        intro h
        rw [List.nodup_append] at h
        have hm : (1 : Int) ∈ errB (n + 1) := List.mem_map.2 ⟨0, by simp, rfl⟩
        exact h.2.2 1 hm 1 hm rfl
      unfold rightF
      rw [decide_eq_false this]
      simp
  unfold openE
  rw [if_pos hr]
theorem err_least {a n k L : Nat} (hn : n ≤ 45) (h : openE (errS a) (errB n) k = 0) (hL : Least (mayL (errS a) (errB n)) (asrF (errS a).ps).length k L) : L = (n * k + a - 1) / a := by
  have := least_free h (err_free a n hn) hL
  rw [errB_len, show (asrF (errS a).ps).length = a from err_asr_len a] at this
  exact this
end Go.Proofs.Ytlekdhhgjhakgaa
