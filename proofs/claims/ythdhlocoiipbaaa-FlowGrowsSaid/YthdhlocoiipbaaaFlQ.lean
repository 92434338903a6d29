/-
  The example of the chapter, as plain data: its labels, what Check and Knows answer. Nothing is asked.
-/
import Derived.Test.YthdhlocoiipbaaaFlN
namespace Go.Proofs.Ythdhlocoiipbaaa
set_option linter.unusedVariables false
set_option linter.unusedSimpArgs false
open Go.RowKit

theorem lab_closed {xs : List It} {x : It} {S : List Int} {o : Int} (hok : OkI o) (h1 : ∀ id ∈ x.frm, (fnd xs id).isSome = true → id ∈ S)
    (h2 : ∀ id ∈ S, ∀ y, fnd xs id = some y → ∀ j ∈ y.frm, (fnd xs j).isSome = true → j ∈ S) (h3 : ∀ id ∈ S, Reach xs x.frm id)
    (hb : ∀ i, ibit o i = true ↔ ibit x.label i = true ∨ ∃ id ∈ S, ∃ y, fnd xs id = some y ∧ ibit y.label i = true) : LabS xs x o := by
  have all : ∀ id, Reach xs x.frm id → id ∈ S := by
    intro id r
    induction r with
    | base id a b => exact h1 id a b
    | step id j y _ a b c ih => exact h2 id ih y a j b c
  refine ⟨hok, fun i => (hb i).trans ⟨?_, ?_⟩⟩
  · rintro (h | ⟨id, hid, y, hy, hb⟩)
    · exact .inl h
    · exact .inr ⟨id, y, h3 id hid, hy, hb⟩
  · rintro (h | ⟨id, y, hr, hy, hb⟩)
    · exact .inl h
    · exact .inr ⟨id, all id hr, y, hy, hb⟩

section
variable (a b c d : Value)
/-- The items of the chapter. -/
def itS : List It := [⟨1, 2, a, []⟩, ⟨2, 1, b, []⟩, ⟨3, 0, c, [1, 2]⟩, ⟨4, 4, d, [2]⟩]
theorem fndS (id : Int) : fnd (itS a b c d) id = if id = 1 then some ⟨1, 2, a, []⟩ else if id = 2 then some ⟨2, 1, b, []⟩ else if id = 3 then some ⟨3, 0, c, [1, 2]⟩ else if id = 4 then some ⟨4, 4, d, [2]⟩ else none := by
  unfold fnd itS
  by_cases h1 : id = 1
  · subst h1; rfl
  · by_cases h2 : id = 2
    · subst h2; rfl
    · by_cases h3 : id = 3
      · subst h3; rfl
      · by_cases h4 : id = 4
        · subst h4; rfl
        · rw [if_neg h1, if_neg h2, if_neg h3, if_neg h4, List.find?_eq_none]
          intro x hx
          simp only [List.mem_cons, List.not_mem_nil, or_false] at hx
          rcases hx with rfl | rfl | rfl | rfl <;> simp <;> omega
theorem fndS1 : fnd (itS a b c d) 1 = some ⟨1, 2, a, []⟩ := by rw [fndS, if_pos rfl]
theorem fndS2 : fnd (itS a b c d) 2 = some ⟨2, 1, b, []⟩ := by rw [fndS, if_neg (by decide), if_pos rfl]
theorem lab1 : LabS (itS a b c d) ⟨1, 2, a, []⟩ 2 := lab_closed (S := []) ⟨by decide, by decide⟩ (by simp) (by simp) (by simp) (by simp)
theorem lab2 : LabS (itS a b c d) ⟨2, 1, b, []⟩ 1 := lab_closed (S := []) ⟨by decide, by decide⟩ (by simp) (by simp) (by simp) (by simp)
theorem lab3 : LabS (itS a b c d) ⟨3, 0, c, [1, 2]⟩ 3 := by
  have e1 := fndS1 a b c d
  have e2 := fndS2 a b c d
  generalize itS a b c d = xs at *
  refine lab_closed (S := [1, 2]) ⟨by decide, by decide⟩ (fun id h _ => h) ?_ (fun id h => .base id h ?_) ?_
  · intro id hid y hy j hj
    rcases List.mem_cons.1 hid with rfl | hid
    · rw [e1] at hy; cases hy; cases hj
    · rw [List.mem_singleton] at hid; subst hid; rw [e2] at hy; cases hy; cases hj
  · rcases List.mem_cons.1 h with rfl | h
    · rw [e1]; rfl
    · rw [List.mem_singleton] at h; subst h; rw [e2]; rfl
  · intro i
    rw [show (3 : Int) = bor (bor 0 2) 1 by decide, ibit_bor, ibit_bor, Bool.or_eq_true, Bool.or_eq_true]
    constructor
    · rintro ((h | h) | h)
      · exact .inl h
      · exact .inr ⟨1, by simp, _, e1, h⟩
      · exact .inr ⟨2, by simp, _, e2, h⟩
    · rintro (h | ⟨id, hid, y, hy, h⟩)
      · exact .inl (.inl h)
      · rcases List.mem_cons.1 hid with rfl | hid
        · rw [e1] at hy; cases hy; exact .inl (.inr h)
        · rw [List.mem_singleton] at hid; subst hid; rw [e2] at hy; cases hy; exact .inr h
theorem lab4 : LabS (itS a b c d) ⟨4, 4, d, [2]⟩ 5 := by
  have e2 := fndS2 a b c d
  generalize itS a b c d = xs at *
  refine lab_closed (S := [2]) ⟨by decide, by decide⟩ (fun id h _ => h) ?_ (fun id h => .base id h ?_) ?_
  · intro id hid y hy j hj
    rw [List.mem_singleton] at hid; subst hid; rw [e2] at hy; cases hy; cases hj
  · rw [List.mem_singleton] at h; subst h; rw [e2]; rfl
  · intro i
    rw [show (5 : Int) = bor 4 1 by decide, ibit_bor, Bool.or_eq_true]
    constructor
    · rintro (h | h)
      · exact .inl h
      · exact .inr ⟨2, by simp, _, e2, h⟩
    · rintro (h | ⟨id, hid, y, hy, h⟩)
      · exact .inl h
      · rw [List.mem_singleton] at hid; subst hid; rw [e2] at hy; cases hy; exact .inr h
theorem labsS : (itS a b c d).map (labOf (itS a b c d)) = [2, 1, 3, 5] := by
  have h1 := (lab1 a b c d).of
  have h2 := (lab2 a b c d).of
  have h3 := (lab3 a b c d).of
  have h4 := (lab4 a b c d).of
  show [labOf _ _, labOf _ _, labOf _ _, labOf _ _] = _
  rw [h1, h2, h3, h4]
theorem price3 : price (itS a b c d) 3 = true := by
  unfold price prI
  rw [fndS]
  show (band (labOf _ _) 2 != 0) = true
  rw [(lab3 a b c d).of]
  decide
theorem price4 : price (itS a b c d) 4 = false := by
  unfold price prI
  rw [fndS]
  show (band (labOf _ _) 2 != 0) = false
  rw [(lab4 a b c d).of]
  decide
/-- The messages of the chapter. -/
def msS (u v : Value) : List Ms := [⟨9, 5, 3, u, [4]⟩, ⟨9, 5, 4, v, [3]⟩]
theorem nodS : ((itS a b c d).map (·.id)).Nodup := by
  show [(1 : Int), 2, 3, 4].Nodup
  decide
theorem missS : ((itS a b c d).any (fun x => x.frm.any (mis (itS a b c d)))) = false := by
  show (([] : List Int).any _ || (([] : List Int).any _ || ([(1 : Int), 2].any (mis (itS a b c d)) || ([(2 : Int)].any (mis (itS a b c d)) || false)))) = false
  simp [mis, fndS]
theorem chk10 (u v : Value) : chk (itS a b c d) (msS u v) [5] 10 = ([⟨9, 5, 4, v, [3]⟩], 40) := by
  have hm : miss (itS a b c d) (msS u v) = false := by
    unfold miss
    rw [missS]
    simp [msS, mis, fndS]
  have hf : (msS u v).filter (bad (itS a b c d) [5] 10) = [⟨9, 5, 4, v, [3]⟩] := by
    unfold msS
    rw [List.filter_cons, List.filter_cons, List.filter_nil]
    simp [bad, price3, price4]
  unfold chk
  rw [if_neg (by simpa using nodS a b c d), if_neg (by rw [hm]; simp), hf, if_neg (by simp)]
theorem chk4 (u v : Value) : chk (itS a b c d) (msS u v) [5] 4 = ([], 0) := by
  have hm : miss (itS a b c d) (msS u v) = false := by
    unfold miss
    rw [missS]
    simp [msS, mis, fndS]
  have hf : (msS u v).filter (bad (itS a b c d) [5] 4) = [] := by
    unfold msS
    rw [List.filter_cons, List.filter_cons, List.filter_nil]
    simp [bad, price4]
  unfold chk
  rw [if_neg (by simpa using nodS a b c d), if_neg (by rw [hm]; simp), hf, if_pos rfl]
theorem chk7 (u v x : Value) : chk (itS a b c d) (msS u v ++ [⟨0, 0, 0, x, [7]⟩]) [] 0 = ([], 34) := by
  have hm : miss (itS a b c d) (msS u v ++ [⟨0, 0, 0, x, [7]⟩]) = true := by
    unfold miss
    rw [missS]
    simp [msS, mis, fndS]
  unfold chk
  rw [if_neg (by simpa using nodS a b c d), if_pos hm]
theorem know3 (u v : Value) : srt (knowL (itS a b c d) 5 3 (msS u v)) = [4] := by
  have : knowL (itS a b c d) 5 3 (msS u v) = [4] := by simp [knowL, msS, cnt, ids, mis, fndS]
  rw [this]
  have h := srt_spec [4]
  exact incr_eq h.1 (by simp) h.2
theorem know4 (u v : Value) : srt (knowL (itS a b c d) 5 4 (msS u v)) = [3, 4] := by
  have : knowL (itS a b c d) 5 4 (msS u v) = [4, 3] := by simp [knowL, msS, cnt, ids, mis, fndS]
  rw [this]
  have h := srt_spec [4, 3]
  refine incr_eq h.1 (by simp) (fun x => (h.2 x).trans ?_)
  simp only [List.mem_cons, List.not_mem_nil, or_false]
  exact Or.comm
end

end Go.Proofs.Ythdhlocoiipbaaa
