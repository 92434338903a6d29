/-
  What the order of items and messages does not matter for. Nothing is asked.
-/
import Derived.Test.YthdhlocoiipbaaaFlF
namespace Go.Proofs.Ythdhlocoiipbaaa
set_option linter.unusedVariables false
set_option linter.unusedSimpArgs false
open Go.RowKit

/-- A list turned by b places. -/
def rotL {α : Type} (b : Nat) (l : List α) : List α := l.drop b ++ l.take b
theorem rotL_perm {α : Type} (b : Nat) (l : List α) : (rotL b l).Perm l := by
  unfold rotL
  refine List.perm_append_comm.trans ?_
  rw [List.take_append_drop]
theorem rotL_len {α : Type} (b : Nat) (l : List α) : (rotL b l).length = l.length := (rotL_perm b l).length_eq
theorem rotL_mem {α : Type} (b : Nat) (l : List α) {x : α} : x ∈ rotL b l ↔ x ∈ l := (rotL_perm b l).mem_iff
theorem rotL_get {α : Type} {l : List α} {q k : Nat} (hk : k < l.length) : ∃ h : (k + q) % l.length < l.length, ∃ h' : k < (rotL (q % l.length) l).length, (rotL (q % l.length) l)[k] = l[(k + q) % l.length] := by
  have hn : 0 < l.length := by omega
  have hb : q % l.length < l.length := Nat.mod_lt _ hn
  have h1 : (k + q) % l.length < l.length := Nat.mod_lt _ hn
  have h2 : k < (rotL (q % l.length) l).length := by rw [rotL_len]; exact hk
  refine ⟨h1, h2, ?_⟩
  have he : (k + q) % l.length = if k + q % l.length < l.length then k + q % l.length else k + q % l.length - l.length := by
    rw [Nat.add_mod, Nat.mod_eq_of_lt hk]
    split
    · rename_i h; exact Nat.mod_eq_of_lt h
    · rename_i h
      rw [Nat.mod_eq_sub_mod (by omega), Nat.mod_eq_of_lt (by omega)]
  have h3 : (rotL (q % l.length) l)[k]? = l[(k + q) % l.length]? := by
    unfold rotL
    rw [he]
    split
    · rename_i h
      rw [List.getElem?_append_left (by rw [List.length_drop]; omega), List.getElem?_drop, Nat.add_comm]
    · rename_i h
      rw [List.getElem?_append_right (by rw [List.length_drop]; omega), List.length_drop, List.getElem?_take, if_pos (by omega)]
      congr 1
      omega
  rw [List.getElem?_eq_getElem h2, List.getElem?_eq_getElem h1] at h3
  exact Option.some.inj h3

/-- Items that are found alike. -/
def Alike (xs ys : List It) : Prop := ∀ id, fnd ys id = fnd xs id
theorem nodup_fnd {xs : List It} (h : (xs.map (·.id)).Nodup) {x : It} (hx : x ∈ xs) : fnd xs x.id = some x := by
  obtain ⟨k, hk, rfl⟩ := List.getElem_of_mem hx
  refine fnd_at hk rfl fun i hi e => ?_
  have h1 := List.pairwise_iff_getElem.1 h i k (by simp; omega) (by simpa using hk) hi
  simp only [List.getElem_map] at h1
  exact h1 e
theorem alike_rot {xs : List It} (h : (xs.map (·.id)).Nodup) (b : Nat) : Alike xs (rotL b xs) ∧ ((rotL b xs).map (·.id)).Nodup := by
  have h2 : ((rotL b xs).map (·.id)).Nodup := (((rotL_perm b xs).map (·.id)).nodup_iff).2 h
  refine ⟨fun id => ?_, h2⟩
  cases hf : fnd xs id with
  | none =>
    rw [fnd_none] at hf ⊢
    intro hm
    obtain ⟨x, hx, e⟩ := List.mem_map.1 hm
    exact hf (List.mem_map.2 ⟨x, (rotL_mem b xs).1 hx, e⟩)
  | some y =>
    have hy := List.mem_of_find?_eq_some hf
    have he : y.id = id := by have := List.find?_some hf; simpa using this
    rw [← he]
    exact nodup_fnd h2 ((rotL_mem b xs).2 hy)
theorem Alike.reach {xs ys : List It} (h : Alike xs ys) {l : List Int} {id : Int} (r : Reach xs l id) : Reach ys l id := by
  induction r with
  | base id h1 h2 => exact .base id h1 (by rw [h]; exact h2)
  | step id j y _ h2 h3 h4 ih => exact .step id j y ih (by rw [h]; exact h2) h3 (by rw [h]; exact h4)
theorem Alike.symm {xs ys : List It} (h : Alike xs ys) : Alike ys xs := fun id => (h id).symm
theorem Alike.lab {xs ys : List It} (h : Alike xs ys) (x : It) : labOf ys x = labOf xs x := by
  unfold labOf
  congr 1
  funext o
  apply propext
  unfold LabS
  refine and_congr Iff.rfl (forall_congr' fun i => iff_congr Iff.rfl (or_congr Iff.rfl ⟨?_, ?_⟩))
  · rintro ⟨id, y, hr, hy, hb⟩
    exact ⟨id, y, h.symm.reach hr, by rw [← h]; exact hy, hb⟩
  · rintro ⟨id, y, hr, hy, hb⟩
    exact ⟨id, y, h.reach hr, by rw [h]; exact hy, hb⟩
theorem Alike.price {xs ys : List It} (h : Alike xs ys) : price ys = price xs := by
  funext id
  unfold Go.Proofs.Ythdhlocoiipbaaa.price prI
  rw [h]
  cases fnd xs id with
  | none => rfl
  | some y => simp only [h.lab]
theorem Alike.mis {xs ys : List It} (h : Alike xs ys) : mis ys = mis xs := by
  funext id
  unfold Go.Proofs.Ythdhlocoiipbaaa.mis
  rw [h]
theorem Alike.bad {xs ys : List It} (h : Alike xs ys) (op : Int) : bad ys [3, 2, 2] op = bad xs [2, 3] op := by
  funext m
  unfold Go.Proofs.Ythdhlocoiipbaaa.bad
  rw [h.price]
  congr 2
  rw [Bool.eq_iff_iff, List.contains_iff_mem, List.contains_iff_mem]
  simp only [List.mem_cons, List.not_mem_nil, or_false]
  omega
theorem rot_know {xs ys : List It} (h : Alike xs ys) (who tm : Int) (ms : List Ms) (b : Nat) : srt (knowL ys who tm (rotL b ms)) = srt (knowL xs who tm ms) := by
  refine incr_eq (srt_spec _).1 (srt_spec _).1 fun x => ?_
  rw [(srt_spec _).2, (srt_spec _).2, know_mem, know_mem, h.mis]
  constructor
  · rintro ⟨m, hm, r⟩; exact ⟨m, (rotL_mem b ms).1 hm, r⟩
  · rintro ⟨m, hm, r⟩; exact ⟨m, (rotL_mem b ms).2 hm, r⟩
theorem rot_filter (p : Ms → Bool) (b : Nat) (ms : List Ms) : ((rotL b ms).filter p).length = (ms.filter p).length := ((rotL_perm b ms).filter p).length_eq

end Go.Proofs.Ythdhlocoiipbaaa
