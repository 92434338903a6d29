/-
  Plain facts of items that numbers determine, and of their labels. Nothing is asked.
-/
import Derived.Test.YthdhlocoiipbaaaFlZ
namespace Go.Proofs.Ythdhlocoiipbaaa
set_option linter.unusedVariables false
set_option linter.unusedSimpArgs false
open Go.RowKit

/-- All items are those that the rows determine. -/
def MadeX (N : Nat) (f : Nat → Nat → Int) (xs : List It) : Prop := xs.length = N ∧ ∀ k (h : k < xs.length), MadeI N f k xs[k]
theorem MadeX.nodup {N : Nat} {f : Nat → Nat → Int} {xs : List It} (h : MadeX N f xs) : (xs.map (·.id)).Nodup := by
  refine List.pairwise_iff_getElem.2 fun i j hi hj hij => ?_
  rw [List.getElem_map, List.getElem_map]
  have h1 := (h.2 i (by simpa using hi)).1
  have h2 := (h.2 j (by simpa using hj)).1
  omega
theorem MadeX.at {N : Nat} {f : Nat → Nat → Int} {xs : List It} (h : MadeX N f xs) {k : Nat} (hk : k < xs.length) : fnd xs ((k : Int) + 1) = some xs[k] :=
  fnd_at hk (h.2 k hk).1 (fun i hi => by have := (h.2 i (by omega)).1; omega)
theorem frm1_mem {N : Nat} {z id : Int} (h : id ∈ frm1 N z) : 1 ≤ id ∧ id ≤ N := by
  unfold frm1 at h
  split at h
  · rename_i hc
    rw [List.mem_singleton] at h
    subst h
    exact hc
  · cases h
theorem MadeX.frm {N : Nat} {f : Nat → Nat → Int} {xs : List It} (h : MadeX N f xs) {x : It} (hx : x ∈ xs) {id : Int} (hid : id ∈ x.frm) : ∃ j, ∃ hj : j < xs.length, id = (j : Int) + 1 ∧ fnd xs id = some xs[j] := by
  obtain ⟨k, hk, rfl⟩ := List.getElem_of_mem hx
  have h1 := (h.2 k hk).2.2
  rw [h1] at hid
  have h2 : 1 ≤ id ∧ id ≤ N := by
    rcases List.mem_append.1 hid with h | h
    · exact frm1_mem h
    · exact frm1_mem h
  obtain ⟨j, rfl⟩ : ∃ j : Nat, id = (j : Int) + 1 := ⟨(id - 1).toNat, by omega⟩
  have hj : j < xs.length := by rw [h.1]; omega
  exact ⟨j, hj, rfl, h.at hj⟩
theorem MadeX.miss {N : Nat} {f : Nat → Nat → Int} {xs : List It} (h : MadeX N f xs) : xs.any (fun x => x.frm.any (mis xs)) = false := by
  rw [List.any_eq_false]
  intro x hx
  rw [Bool.not_eq_true, List.any_eq_false]
  intro id hid
  obtain ⟨j, hj, -, hf⟩ := h.frm hx hid
  simp [mis, hf]

/-- The first step of what is reached. -/
theorem Reach.first {xs : List It} {l : List Int} {id : Int} (r : Reach xs l id) : ∃ a ∈ l, ∃ y, fnd xs a = some y ∧ (a = id ∨ Reach xs y.frm id) := by
  induction r with
  | base id h1 h2 =>
    obtain ⟨y, hy⟩ := Option.isSome_iff_exists.1 h2
    exact ⟨id, h1, y, hy, .inl rfl⟩
  | step id j y _ h2 h3 h4 ih =>
    obtain ⟨a, ha, z, hz, e | r⟩ := ih
    · subst e
      rw [h2] at hz; cases hz
      exact ⟨a, ha, y, h2, .inr (.base j h3 h4)⟩
    · exact ⟨a, ha, z, hz, .inr (.step id j y r h2 h3 h4)⟩
/-- An item's labels are its own and those of its origins. -/
theorem lab_step {xs : List It} (hL : ∀ x ∈ xs, LabS xs x (labOf xs x)) {x : It} (hx : x ∈ xs) (i : Nat) :
    ibit (labOf xs x) i = true ↔ ibit x.label i = true ∨ ∃ id ∈ x.frm, ∃ y, fnd xs id = some y ∧ ibit (labOf xs y) i = true := by
  rw [(hL x hx).2 i]
  constructor
  · rintro (h | ⟨id, z, hr, hz, hb⟩)
    · exact .inl h
    · obtain ⟨a, ha, y, hy, e | r⟩ := hr.first
      · subst e
        have e2 : y = z := Option.some.inj (hy.symm.trans hz)
        subst e2
        exact .inr ⟨a, ha, y, hy, ((hL y (List.mem_of_find?_eq_some hy)).2 i).2 (.inl hb)⟩
      · exact .inr ⟨a, ha, y, hy, ((hL y (List.mem_of_find?_eq_some hy)).2 i).2 (.inr ⟨id, z, r, hz, hb⟩)⟩
  · rintro (h | ⟨a, ha, y, hy, hb⟩)
    · exact .inl h
    · rcases ((hL y (List.mem_of_find?_eq_some hy)).2 i).1 hb with h | ⟨id, z, hr, hz, hb⟩
      · exact .inr ⟨a, y, .base a ha (by rw [hy]; rfl), hy, h⟩
      · exact .inr ⟨id, z, Reach.trans (.base a ha (by rw [hy]; rfl)) hy hr, hz, hb⟩
/-- The labels of all items have the bits of their own labels. -/
theorem lab_any {xs : List It} (hL : ∀ x ∈ xs, LabS xs x (labOf xs x)) (b : Int) : xs.any (fun x => band x.label b != 0) = (xs.map (labOf xs)).any (fun z => band z b != 0) := by
  rw [Bool.eq_iff_iff, List.any_eq_true, List.any_eq_true]
  have ne : ∀ z : Int, (band z b != 0) = true ↔ ∃ i, ibit z i = true ∧ ibit b i = true := by
    intro z
    rw [bne_iff_ne, ne_eq, band_zero]
    constructor
    · intro h
      apply Classical.byContradiction
      intro hn
      refine h fun i hi => ?_
      cases hb : ibit b i
      · rfl
      · exact absurd ⟨i, hi, hb⟩ hn
    · rintro ⟨i, h1, h2⟩ h
      rw [h i h1] at h2
      cases h2
  constructor
  · rintro ⟨x, hx, h⟩
    obtain ⟨i, h1, h2⟩ := (ne _).1 h
    exact ⟨_, List.mem_map.2 ⟨x, hx, rfl⟩, (ne _).2 ⟨i, ((hL x hx).2 i).2 (.inl h1), h2⟩⟩
  · rintro ⟨z, hz, h⟩
    obtain ⟨x, hx, rfl⟩ := List.mem_map.1 hz
    obtain ⟨i, h1, h2⟩ := (ne _).1 h
    rcases ((hL x hx).2 i).1 h1 with h3 | ⟨id, y, -, hy, h3⟩
    · exact ⟨x, hx, (ne _).2 ⟨i, h3, h2⟩⟩
    · exact ⟨y, List.mem_of_find?_eq_some hy, (ne _).2 ⟨i, h3, h2⟩⟩

/-- The or of ints. -/
def orL (acc : Int) (l : List Int) : Int := l.foldl bor acc
theorem orL_snoc (acc : Int) (l : List Int) (z : Int) : orL acc (l ++ [z]) = bor (orL acc l) z := by unfold orL; rw [List.foldl_append]; rfl
theorem orL_ok {acc : Int} (h : OkI acc) (l : List Int) : OkI (orL acc l) := by
  induction l generalizing acc with
  | nil => exact h
  | cons z l ih => exact ih (bor_ok _ _)
theorem orL_bit (acc : Int) (l : List Int) (i : Nat) : ibit (orL acc l) i = true ↔ ibit acc i = true ∨ ∃ z ∈ l, ibit z i = true := by
  induction l generalizing acc with
  | nil => simp [orL]
  | cons z l ih =>
    show ibit (orL (bor acc z) l) i = true ↔ _
    rw [ih, ibit_bor, Bool.or_eq_true]
    simp only [List.mem_cons, exists_eq_or_imp, or_assoc]
/-- What the law adds up of an item's origins. -/
noncomputable def orF (xs : List It) (l : List Int) : List Int := l.map (fun id => match fnd xs id with | some y => labOf xs y | none => 0)
theorem orF_all {xs : List It} (hL : ∀ x ∈ xs, LabS xs x (labOf xs x)) {x : It} (hx : x ∈ xs) (hok : OkI x.label) : orL x.label (orF xs x.frm) = labOf xs x := by
  refine ibit_ext (orL_ok hok _) (hL x hx).1 fun i _ => Bool.eq_iff_iff.2 ?_
  rw [orL_bit, lab_step hL hx]
  refine or_congr Iff.rfl ⟨?_, ?_⟩
  · rintro ⟨z, hz, hb⟩
    obtain ⟨id, hid, rfl⟩ := List.mem_map.1 hz
    cases hf : fnd xs id with
    | none => rw [hf] at hb; simp [ibit_zero] at hb
    | some y => rw [hf] at hb; exact ⟨id, hid, y, hf, hb⟩
  · rintro ⟨id, hid, y, hy, hb⟩
    exact ⟨_, List.mem_map.2 ⟨id, hid, rfl⟩, by rw [hy]; exact hb⟩

theorem MadeS.x {B N : Nat} {f : Nat → Nat → Int} {w : World} {v : Value} {xs : List It} (h : MadeS B N f w v xs) (hl : xs.length = N) : MadeX N f xs := ⟨hl, fun k hk => (h.2.2 k hk).1⟩
/-- Made's slice holds its items. -/
theorem MadeS.ri {B N : Nat} {f : Nat → Nat → Int} {w : World} {v : Value} {xs : List It} (h : MadeS B N f w v xs) (hN : N ≤ 20) : RI w v xs := by
  refine ⟨(SR.of_row (cs := It.cs) (fun x => rfl) h.1 (by have := h.2.1; omega)).sq, fun x hx => ?_⟩
  obtain ⟨k, hk, rfl⟩ := List.getElem_of_mem hx
  obtain ⟨h1, h2⟩ := h.2.2 k hk
  have hkN : k < 20 := by have := h.2.1; omega
  refine ⟨by rw [h1.1]; exact okI_small (by omega), by rw [h1.2.1]; exact labT_ok _, ird_row h2 (fun z hz => ?_) ?_⟩
  · rw [h1.2.2] at hz
    have : 1 ≤ z ∧ z ≤ N := by
      rcases List.mem_append.1 hz with h | h
      · exact frm1_mem h
      · exact frm1_mem h
    exact okI_small (by omega)
  · rw [h1.2.2]
    unfold frmT
    have h3 := frm1_le N (f k 1)
    have h4 := frm1_le N (f k 2)
    rw [List.length_append]
    omega

end Go.Proofs.Ythdhlocoiipbaaa
