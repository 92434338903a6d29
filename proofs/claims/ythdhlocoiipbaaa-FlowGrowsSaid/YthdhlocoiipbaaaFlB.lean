/-
  The bits of ints; what is reached from an item, and its labels, as plain laws. Nothing is asked.
-/
import Derived.Test.YthdhlocoiipbaaaFl
namespace Go.Proofs.Ythdhlocoiipbaaa
set_option linter.unusedVariables false
set_option linter.unusedSimpArgs false
open Go.RowKit

/-- A bit of an int. -/
def ibit (x : Int) (i : Nat) : Bool := (BitVec.ofInt 64 x).getLsbD i
/-- 'x | y'. -/
def bor (x y : Int) : Int := IntKind.i64.wrap ((BitVec.ofInt 64 x ||| BitVec.ofInt 64 y).toNat : Int)
def band (x y : Int) : Int := IntKind.i64.wrap ((BitVec.ofInt 64 x &&& BitVec.ofInt 64 y).toNat : Int)
theorem wrap_toInt (b : BitVec 64) : IntKind.i64.wrap (b.toNat : Int) = b.toInt := by
  rw [BitVec.toInt_eq_toNat_cond]
  have := b.isLt
  simp [IntKind.wrap, IntKind.bits, IntKind.signed]
  split <;> split <;> omega
theorem ofInt_bor (x y : Int) : BitVec.ofInt 64 (bor x y) = BitVec.ofInt 64 x ||| BitVec.ofInt 64 y := by
  unfold bor; rw [wrap_toInt, BitVec.ofInt_toInt]
theorem ofInt_band (x y : Int) : BitVec.ofInt 64 (band x y) = BitVec.ofInt 64 x &&& BitVec.ofInt 64 y := by
  unfold band; rw [wrap_toInt, BitVec.ofInt_toInt]
theorem ibit_bor (x y : Int) (i : Nat) : ibit (bor x y) i = (ibit x i || ibit y i) := by
  unfold ibit; rw [ofInt_bor, BitVec.getLsbD_or]
theorem ibit_band (x y : Int) (i : Nat) : ibit (band x y) i = (ibit x i && ibit y i) := by
  unfold ibit; rw [ofInt_band, BitVec.getLsbD_and]
theorem toInt_ok (b : BitVec 64) : OkI b.toInt := by
  have h1 := BitVec.toInt_lt (x := b)
  have h2 := BitVec.le_toInt b
  unfold OkI
  omega
theorem bor_ok (x y : Int) : OkI (bor x y) := by unfold bor; rw [wrap_toInt]; exact toInt_ok _
theorem band_ok (x y : Int) : OkI (band x y) := by unfold band; rw [wrap_toInt]; exact toInt_ok _
theorem ibit_ext {x y : Int} (hx : OkI x) (hy : OkI y) (h : ∀ i, i < 64 → ibit x i = ibit y i) : x = y := by
  have h1 : BitVec.ofInt 64 x = BitVec.ofInt 64 y := BitVec.eq_of_getLsbD_eq fun i hi => h i hi
  have h2 := congrArg BitVec.toInt h1
  obtain ⟨a1, a2⟩ := hx
  obtain ⟨b1, b2⟩ := hy
  rw [BitVec.toInt_ofInt, BitVec.toInt_ofInt] at h2
  rw [Int.bmod_eq_of_le (by omega) (by omega), Int.bmod_eq_of_le (by omega) (by omega)] at h2
  exact h2
theorem ibit_zero (i : Nat) : ibit 0 i = false := by simp [ibit]
theorem ibit_lt {x : Int} {i : Nat} (h : ibit x i = true) : i < 64 := by
  by_cases hi : i < 64
  · exact hi
  · unfold ibit at h
    rw [BitVec.getLsbD_of_ge _ _ (by omega)] at h
    cases h
/-- Whether an or changes anything. -/
theorem bor_eq {x y : Int} (hx : OkI x) : bor x y = x ↔ ∀ i, ibit y i = true → ibit x i = true := by
  constructor
  · intro e i hi
    rw [← e, ibit_bor, hi, Bool.or_true]
  · intro h
    refine ibit_ext (bor_ok _ _) hx fun i _ => ?_
    rw [ibit_bor]
    have := h i
    cases hy : ibit y i <;> cases hx' : ibit x i <;> simp_all
theorem band_zero {x y : Int} : band x y = 0 ↔ ∀ i, ibit x i = true → ibit y i = false := by
  constructor
  · intro e i hi
    have := ibit_band x y i
    rw [e, ibit_zero, hi, Bool.true_and] at this
    exact this.symm
  · intro h
    refine ibit_ext (band_ok _ _) ⟨by decide, by decide⟩ fun i _ => ?_
    rw [ibit_band, ibit_zero]
    have := h i
    cases hx' : ibit x i <;> simp_all

/-- What is reached from a list of Ids. -/
inductive Reach (xs : List It) (l : List Int) : Int → Prop
  | base (id : Int) : id ∈ l → (fnd xs id).isSome = true → Reach xs l id
  | step (id j : Int) (y : It) : Reach xs l id → fnd xs id = some y → j ∈ y.frm → (fnd xs j).isSome = true → Reach xs l j
theorem Reach.mono {xs : List It} {l m : List Int} (h : ∀ i ∈ l, i ∈ m) {id : Int} (r : Reach xs l id) : Reach xs m id := by
  induction r with
  | base id h1 h2 => exact .base id (h id h1) h2
  | step id j y _ h2 h3 h4 ih => exact .step id j y ih h2 h3 h4
theorem Reach.trans {xs : List It} {l : List Int} {id : Int} {y : It} (h : Reach xs l id) (hy : fnd xs id = some y) {j : Int} (r : Reach xs y.frm j) : Reach xs l j := by
  induction r with
  | base j h1 h2 => exact .step id j y h hy h1 h2
  | step i j z _ h2 h3 h4 ih => exact .step i j z ih h2 h3 h4
theorem Reach.known {xs : List It} {l : List Int} {id : Int} (h : Reach xs l id) : (fnd xs id).isSome = true := by
  cases h <;> assumption

/-- What a visit of l turns the seen ones and the labels into. -/
def DV (xs : List It) (S : List Int) (o : Int) (l : List Int) (S' : List Int) (o' : Int) : Prop :=
  (∀ id ∈ S, id ∈ S') ∧ (∀ id ∈ l, (fnd xs id).isSome = true → id ∈ S') ∧ (∀ id ∈ S', id ∉ S → Reach xs l id) ∧
    (∀ id ∈ S', id ∉ S → ∀ y, fnd xs id = some y → ∀ j ∈ y.frm, (fnd xs j).isSome = true → j ∈ S') ∧
    (∀ i, ibit o' i = true ↔ ibit o i = true ∨ ∃ id ∈ S', id ∉ S ∧ ∃ y, fnd xs id = some y ∧ ibit y.label i = true)
theorem DV.nil (xs : List It) (S : List Int) (o : Int) : DV xs S o [] S o :=
  ⟨fun _ h => h, by simp, fun id h h' => absurd h h', fun id h h' => absurd h h', fun i => ⟨.inl, fun h => h.resolve_right (fun ⟨id, h1, h2, _⟩ => h2 h1)⟩⟩
theorem DV.skip {xs : List It} {S : List Int} {o : Int} {l S' : List Int} {o' : Int} (h : DV xs S o l S' o') {id : Int} (hid : fnd xs id = none ∨ id ∈ S') : DV xs S o (l ++ [id]) S' o' := by
  obtain ⟨h1, h2, h3, h4, h5⟩ := h
  refine ⟨h1, fun j hj hk => ?_, fun j hj hn => (h3 j hj hn).mono (fun i hi => List.mem_append_left _ hi), h4, h5⟩
  rcases List.mem_append.1 hj with hj | hj
  · exact h2 j hj hk
  · rw [List.mem_singleton] at hj
    subst hj
    rcases hid with e | e
    · rw [e] at hk; cases hk
    · exact e
theorem DV.visit {xs : List It} {S : List Int} {o : Int} {l S1 : List Int} {o1 : Int} (h : DV xs S o l S1 o1) {id : Int} {y : It} (hid : id ∉ S1) (hy : fnd xs id = some y) {S2 : List Int} {o2 : Int}
    (k : DV xs (S1 ++ [id]) (bor o1 y.label) y.frm S2 o2) : DV xs S o (l ++ [id]) S2 o2 := by
  obtain ⟨h1, h2, h3, h4, h5⟩ := h
  obtain ⟨k1, k2, k3, k4, k5⟩ := k
  have s12 : ∀ j ∈ S1, j ∈ S2 := fun j hj => k1 j (List.mem_append_left _ hj)
  have hid2 : id ∈ S2 := k1 id (by simp)
  have hidS : id ∉ S := fun e => hid (h1 id e)
  have hr : Reach xs (l ++ [id]) id := .base id (by simp) (by rw [hy]; rfl)
  refine ⟨fun j hj => s12 j (h1 j hj), ?_, ?_, ?_, ?_⟩
  · intro j hj hk
    rcases List.mem_append.1 hj with hj | hj
    · exact s12 j (h2 j hj hk)
    · rw [List.mem_singleton] at hj; subst hj; exact hid2
  · intro j hj hn
    by_cases j1 : j ∈ S1
    · exact (h3 j j1 hn).mono (fun i hi => List.mem_append_left _ hi)
    · by_cases je : j = id
      · subst je; exact hr
      · exact hr.trans hy (k3 j hj (by simp [j1, je]))
  · intro j hj hn z hz i hi hk
    by_cases j1 : j ∈ S1
    · exact s12 i (h4 j j1 hn z hz i hi hk)
    · by_cases je : j = id
      · subst je
        rw [hy] at hz; cases hz
        exact k2 i hi hk
      · exact k4 j hj (by simp [j1, je]) z hz i hi hk
  · intro i
    rw [k5, ibit_bor, Bool.or_eq_true, h5]
    constructor
    · rintro ((( h | ⟨j, hj, hn, z, hz, hb⟩) | h) | ⟨j, hj, hn, z, hz, hb⟩)
      · exact .inl h
      · exact .inr ⟨j, s12 j hj, hn, z, hz, hb⟩
      · exact .inr ⟨id, hid2, hidS, y, hy, h⟩
      · refine .inr ⟨j, hj, fun e => hn (List.mem_append_left _ (h1 j e)), z, hz, hb⟩
    · rintro (h | ⟨j, hj, hn, z, hz, hb⟩)
      · exact .inl (.inl (.inl h))
      · by_cases j1 : j ∈ S1
        · exact .inl (.inl (.inr ⟨j, j1, hn, z, hz, hb⟩))
        · by_cases je : j = id
          · subst je
            rw [hy] at hz; cases hz
            exact .inl (.inr hb)
          · exact .inr ⟨j, hj, by simp [j1, je], z, hz, hb⟩

/-- The labels of an item. -/
def LabS (xs : List It) (x : It) (o : Int) : Prop :=
  OkI o ∧ ∀ i, ibit o i = true ↔ ibit x.label i = true ∨ ∃ id y, Reach xs x.frm id ∧ fnd xs id = some y ∧ ibit y.label i = true
theorem LabS.unique {xs : List It} {x : It} {o o' : Int} (h : LabS xs x o) (h' : LabS xs x o') : o = o' :=
  ibit_ext h.1 h'.1 fun i _ => Bool.eq_iff_iff.2 ((h.2 i).trans (h'.2 i).symm)
theorem DV.lab {xs : List It} {x : It} {S : List Int} {o : Int} (h : DV xs [] x.label x.frm S o) (ho : OkI o) : LabS xs x o := by
  obtain ⟨h1, h2, h3, h4, h5⟩ := h
  have all : ∀ id, Reach xs x.frm id → id ∈ S := by
    intro id r
    induction r with
    | base id a b => exact h2 id a b
    | step id j y _ a b c ih => exact h4 id ih (by simp) y a j b c
  refine ⟨ho, fun i => (h5 i).trans ⟨?_, ?_⟩⟩
  · rintro (h | ⟨id, hid, hn, y, hy, hb⟩)
    · exact .inl h
    · exact .inr ⟨id, y, h3 id hid hn, hy, hb⟩
  · rintro (h | ⟨id, y, hr, hy, hb⟩)
    · exact .inl h
    · exact .inr ⟨id, all id hr, by simp, y, hy, hb⟩

/-- How many items are not yet seen. -/
def uns (xs : List It) (S : List Int) : Nat := (xs.filter (fun x => decide (x.id ∉ S))).length
theorem uns_le (xs : List It) {S S' : List Int} (h : ∀ i ∈ S, i ∈ S') : uns xs S' ≤ uns xs S := by
  unfold uns
  rw [← List.countP_eq_length_filter, ← List.countP_eq_length_filter]
  refine List.countP_mono_left fun x _ hx => ?_
  simp only [decide_eq_true_eq] at hx ⊢
  exact fun e => hx (h _ e)
theorem uns_lt {xs : List It} {S : List Int} {id : Int} {y : It} (hy : fnd xs id = some y) (hn : id ∉ S) : uns xs (S ++ [id]) < uns xs S := by
  have hm : y ∈ xs := List.mem_of_find?_eq_some hy
  have he : y.id = id := by have := List.find?_some hy; simpa using this
  unfold uns
  rw [← List.countP_eq_length_filter, ← List.countP_eq_length_filter]
  clear hy
  induction xs with
  | nil => cases hm
  | cons x xs ih =>
    have hle : List.countP (fun x => decide (x.id ∉ S ++ [id])) xs ≤ List.countP (fun x => decide (x.id ∉ S)) xs :=
      List.countP_mono_left fun x _ hx => by
        simp only [decide_eq_true_eq] at hx ⊢
        exact fun e => hx (List.mem_append_left _ e)
    rw [List.countP_cons, List.countP_cons]
    rcases List.mem_cons.1 hm with rfl | hm
    · have h1 : decide (y.id ∉ S ++ [id]) = false := by simp [he]
      have h2 : decide (y.id ∉ S) = true := by simp [he, hn]
      simp only [h1, h2, if_true, Bool.false_eq_true, if_false]
      omega
    · have := ih hm
      by_cases hx : x.id ∈ S
      · have h1 : decide (x.id ∉ S ++ [id]) = false := by simp [hx]
        have h2 : decide (x.id ∉ S) = false := by simp [hx]
        simp only [h1, h2, Bool.false_eq_true, if_false]
        omega
      · have h2 : decide (x.id ∉ S) = true := by simp [hx]
        simp only [h2, if_true]
        split <;> omega

/-- The seen ones, as they lie in a map. -/
def seenL (S : List Int) : List (Int × Value) := S.map (fun i => (i, .bool true))
theorem seenL_look (S : List Int) (id : Int) : ((seenL S).lookup id).getD (.bool false) = .bool (decide (id ∈ S)) := by
  unfold seenL
  induction S with
  | nil => rfl
  | cons a S ih =>
    rw [List.map_cons, List.lookup_cons]
    by_cases h : id = a
    · subst h; simp
    · have : (id == a) = false := by simpa using h
      rw [this]
      simp [ih, h]
theorem seenL_put (S : List Int) (id : Int) (h : id ∉ S) : putL (seenL S) id (.bool true) = seenL (S ++ [id]) := by
  unfold putL seenL
  rw [if_neg (by rw [List.map_map]; simpa [Function.comp_def] using h)]
  simp

end Go.Proofs.Ythdhlocoiipbaaa
