/-
  Plain facts of messages that numbers determine, over items that numbers determine. Nothing is asked.
-/
import Derived.Test.YthdhlocoiipbaaaFlP
namespace Go.Proofs.Ythdhlocoiipbaaa
set_option linter.unusedVariables false
set_option linter.unusedSimpArgs false
open Go.RowKit

/-- All messages are those that the rows determine. -/
def MessX (M : Int) (g : Nat → Nat → Int) (ms : List Ms) : Prop := ms.length ≤ 30 ∧ ∀ k (h : k < ms.length), MessI M g k ms[k]
theorem its1_mem {M z id : Int} (h : id ∈ its1 M z) : 1 ≤ id ∧ id ≤ M := by
  unfold its1 at h
  split at h
  · rename_i hc
    rw [List.mem_singleton] at h
    subst h
    have := modZ_bd z hc.1
    omega
  · cases h
theorem MessX.its {M : Int} {g : Nat → Nat → Int} {ms : List Ms} (h : MessX M g ms) {m : Ms} (hm : m ∈ ms) {id : Int} (hid : id ∈ m.its) : 1 ≤ id ∧ id ≤ M := by
  obtain ⟨k, hk, rfl⟩ := List.getElem_of_mem hm
  rw [(h.2 k hk).2.2.2] at hid
  rcases List.mem_append.1 hid with h | h
  · exact its1_mem h
  · exact its1_mem h
theorem MessX.small {M : Int} {g : Nat → Nat → Int} {ms : List Ms} (h : MessX M g ms) : ms.length ≤ 100 ∧ ∀ m ∈ ms, m.its.length ≤ 100 := by
  refine ⟨by have := h.1; omega, fun m hm => ?_⟩
  obtain ⟨k, hk, rfl⟩ := List.getElem_of_mem hm
  rw [(h.2 k hk).2.2.2]
  unfold itsT
  have h1 := its1_le M (g k 3)
  have h2 := its1_le M (g k 4)
  rw [List.length_append]
  omega
theorem MessX.vals {M : Int} {g : Nat → Nat → Int} {ms : List Ms} (h : MessX M g ms) {m : Ms} (hm : m ∈ ms) : (0 ≤ m.src ∧ m.src < 6) ∧ (0 ≤ m.dst ∧ m.dst < 6) ∧ 0 ≤ m.tm ∧ m.tm < 12 := by
  obtain ⟨k, hk, rfl⟩ := List.getElem_of_mem hm
  obtain ⟨h1, h2, h3, -⟩ := h.2 k hk
  rw [h1, h2, h3]
  exact ⟨modZ_bd _ (by decide), modZ_bd _ (by decide), modZ_bd _ (by decide)⟩
theorem MessS.x {B N : Nat} {M : Int} {f : Nat → Nat → Int} {w : World} {v : Value} {ms : List Ms} (h : MessS B N M f w v ms) (hN : N ≤ 30) : MessX M f ms := ⟨by have := h.2.1; omega, fun k hk => (h.2.2 k hk).1⟩
theorem MessS.rm {B N : Nat} {M : Int} {f : Nat → Nat → Int} {w : World} {v : Value} {ms : List Ms} (h : MessS B N M f w v ms) (hN : N ≤ 30) (hM : M ≤ 1000) : RM w v ms := by
  have hx := h.x hN
  refine ⟨(SR.of_row (cs := Ms.cs) (fun x => rfl) h.1 (by have := h.2.1; omega)).sq, fun m hm => ?_⟩
  obtain ⟨h1, h2, h3⟩ := hx.vals hm
  have hi := fun id hid => hx.its hm (id := id) hid
  have hs := hx.small.2 m hm
  obtain ⟨k, hk, rfl⟩ := List.getElem_of_mem hm
  exact ⟨okI_small (by omega), okI_small (by omega), okI_small (by omega), ird_row (h.2.2 k hk).2 (fun z hz => by have := hi z hz; exact okI_small (by omega)) (by omega)⟩

/-- An Id among the items. -/
theorem MadeX.id {N : Nat} {f : Nat → Nat → Int} {xs : List It} (h : MadeX N f xs) {id : Int} (h1 : 1 ≤ id) (h2 : id ≤ xs.length) : ∃ j, ∃ hj : j < xs.length, id = (j : Int) + 1 ∧ fnd xs id = some xs[j] := by
  obtain ⟨j, rfl⟩ : ∃ j : Nat, id = (j : Int) + 1 := ⟨(id - 1).toNat, by omega⟩
  have hj : j < xs.length := by omega
  exact ⟨j, hj, rfl, h.at hj⟩
theorem ms_miss {N : Nat} {f : Nat → Nat → Int} {xs : List It} (h : MadeX N f xs) {M : Int} {g : Nat → Nat → Int} {ms : List Ms} (hm : ∀ m ∈ ms, ∀ id ∈ m.its, 1 ≤ id ∧ id ≤ xs.length) : miss xs ms = false := by
  unfold miss
  rw [h.miss, Bool.false_or, List.any_eq_false]
  intro m hmm
  rw [Bool.not_eq_true, List.any_eq_false]
  intro id hid
  obtain ⟨j, hj, -, hf⟩ := h.id (hm m hmm id hid).1 (hm m hmm id hid).2
  simp [mis, hf]
theorem ms_chk {N : Nat} {f : Nat → Nat → Int} {xs : List It} (h : MadeX N f xs) {ms : List Ms} (hm : ∀ m ∈ ms, ∀ id ∈ m.its, 1 ≤ id ∧ id ≤ xs.length) (ar : List Int) (op : Int) :
    chk xs ms ar op = if ms.filter (bad xs ar op) = [] then ([], 0) else (ms.filter (bad xs ar op), 40) := by
  unfold chk
  rw [if_neg (by simpa using h.nodup), if_neg (by rw [ms_miss (M := 0) (g := fun _ _ => 0) h hm]; simp)]
/-- What is known is among the items. -/
theorem know_id {N : Nat} {f : Nat → Nat → Int} {xs : List It} (h : MadeX N f xs) {who tm : Int} {ms : List Ms} {id : Int} (hid : id ∈ knowL xs who tm ms) : ∃ j, ∃ hj : j < xs.length, id = (j : Int) + 1 ∧ fnd xs id = some xs[j] := by
  obtain ⟨m, -, hm⟩ := List.mem_flatMap.1 hid
  have h1 := (List.mem_filter.1 hm).2
  cases hf : fnd xs id with
  | none => simp [mis, hf] at h1
  | some y =>
    obtain ⟨k, hk, rfl⟩ := List.getElem_of_mem (List.mem_of_find?_eq_some hf)
    have he : xs[k].id = id := by have := List.find?_some hf; simpa using this
    exact ⟨k, hk, by rw [← he, (h.2 k hk).1], rfl⟩
theorem know_mem {xs : List It} {who tm : Int} {ms : List Ms} {id : Int} : id ∈ knowL xs who tm ms ↔ ∃ m ∈ ms, m.dst = who ∧ m.tm ≤ tm ∧ id ∈ m.its ∧ mis xs id = false := by
  unfold knowL
  rw [List.mem_flatMap]
  constructor
  · rintro ⟨m, hm, hid⟩
    obtain ⟨h1, h2⟩ := List.mem_filter.1 hm
    obtain ⟨h3, h4⟩ := List.mem_filter.1 hid
    simp only [cnt, Bool.and_eq_true, decide_eq_true_eq] at h2
    exact ⟨m, h1, h2.1, h2.2, h3, by simpa using h4⟩
  · rintro ⟨m, hm, h1, h2, h3, h4⟩
    exact ⟨m, List.mem_filter.2 ⟨hm, by simp [cnt, h1, h2]⟩, List.mem_filter.2 ⟨h3, by simp [h4]⟩⟩

/-- No price is known by someone. -/
noncomputable def cleanW (xs : List It) (ms : List Ms) (t who : Int) : Bool := (srt (knowL xs who (t - 1) ms)).all (fun id => !price xs id)
theorem price_known {xs : List It} {id : Int} (h : price xs id = true) : mis xs id = false := by
  unfold price at h
  unfold mis
  cases hf : fnd xs id with
  | none => rw [hf] at h; cases h
  | some y => rfl
theorem clean_iff (xs : List It) (ms : List Ms) (t : Int) : ms.filter (bad xs [2, 3] t) = [] ↔ (cleanW xs ms t 2 && cleanW xs ms t 3) = true := by
  unfold cleanW
  rw [List.filter_eq_nil_iff, Bool.and_eq_true, List.all_eq_true, List.all_eq_true]
  constructor
  · intro h
    have key : ∀ who, who = 2 ∨ who = 3 → ∀ x, x ∈ srt (knowL xs who (t - 1) ms) → (!price xs x) = true := by
      intro who hw x hx
      obtain ⟨m, hm, h1, h2, h3, h4⟩ := know_mem.1 (((srt_spec _).2 x).1 hx)
      cases hp : price xs x
      · rfl
      · refine absurd ?_ (h m hm)
        simp only [bad, Bool.and_eq_true, decide_eq_true_eq, List.contains_iff_mem, List.any_eq_true]
        refine ⟨⟨by omega, ?_⟩, x, h3, hp⟩
        rw [h1]
        rcases hw with rfl | rfl <;> simp
    exact ⟨key 2 (.inl rfl), key 3 (.inr rfl)⟩
  · rintro ⟨h2, h3⟩ m hm hb
    simp only [bad, Bool.and_eq_true, decide_eq_true_eq, List.contains_iff_mem, List.any_eq_true] at hb
    obtain ⟨⟨ht, hd⟩, x, hx, hp⟩ := hb
    have hk : ∀ who, m.dst = who → x ∈ srt (knowL xs who (t - 1) ms) := fun who hw => ((srt_spec _).2 x).2 (know_mem.2 ⟨m, hm, hw, by omega, hx, price_known hp⟩)
    rcases List.mem_cons.1 hd with e | e
    · have := h2 x (hk 2 e)
      rw [hp] at this; cases this
    · rw [List.mem_singleton] at e
      have := h3 x (hk 3 e)
      rw [hp] at this; cases this

end Go.Proofs.Ythdhlocoiipbaaa
