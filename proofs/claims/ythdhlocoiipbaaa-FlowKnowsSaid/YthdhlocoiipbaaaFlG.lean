/-
  The reference's labels: what its rounds keep, and what its end says. Nothing is asked.
-/
import Derived.Test.YthdhlocoiipbaaaFlF
namespace Go.Proofs.Ythdhlocoiipbaaa
set_option linter.unusedVariables false
set_option linter.unusedSimpArgs false
open Go.RowKit

/-- The bits that are not set. -/
def uz (z : Int) : Nat := ((List.range 64).filter (fun i => !ibit z i)).length
def uS (zs : List Int) : Nat := (zs.map uz).sum
theorem filter_lt {α : Type} (l : List α) (p q : α → Bool) (h : ∀ x, q x = true → p x = true) : (l.filter q).length ≤ (l.filter p).length ∧ ((∃ x ∈ l, p x = true ∧ q x = false) → (l.filter q).length < (l.filter p).length) := by
  induction l with
  | nil => simp
  | cons a l ih =>
    rw [List.filter_cons, List.filter_cons]
    by_cases hq : q a = true
    · rw [if_pos hq, if_pos (h a hq)]
      refine ⟨by simp only [List.length_cons]; omega, ?_⟩
      rintro ⟨x, hx, h1, h2⟩
      rcases List.mem_cons.1 hx with rfl | hx
      · rw [hq] at h2; cases h2
      · have := ih.2 ⟨x, hx, h1, h2⟩
        simp only [List.length_cons]; omega
    · rw [if_neg hq]
      by_cases hp : p a = true
      · rw [if_pos hp]
        refine ⟨by simp only [List.length_cons]; omega, fun _ => by simp only [List.length_cons]; omega⟩
      · rw [if_neg hp]
        refine ⟨ih.1, ?_⟩
        rintro ⟨x, hx, h1, h2⟩
        rcases List.mem_cons.1 hx with rfl | hx
        · exact absurd h1 hp
        · exact ih.2 ⟨x, hx, h1, h2⟩
theorem uz_bor {x y : Int} (hx : OkI x) (h : bor x y ≠ x) : uz (bor x y) < uz x := by
  unfold uz
  refine (filter_lt _ _ _ fun i hi => ?_).2 ?_
  · rw [ibit_bor] at hi
    cases hxi : ibit x i <;> simp_all
  · apply Classical.byContradiction
    intro hn
    refine h ((bor_eq hx).2 fun i hi => ?_)
    apply Classical.byContradiction
    intro hxi
    rw [Bool.not_eq_true] at hxi
    refine hn ⟨i, List.mem_range.2 (ibit_lt hi), by simp [hxi], by simp [ibit_bor, hi]⟩
theorem uS_set {zs : List Int} {k : Nat} (hk : k < zs.length) {z : Int} (h : uz z < uz zs[k]) : uS (zs.set k z) < uS zs := by
  unfold uS
  induction zs generalizing k with
  | nil => simp at hk
  | cons a zs ih =>
    cases k with
    | zero =>
      rw [List.set_cons_zero, List.map_cons, List.map_cons, List.sum_cons, List.sum_cons]
      simp only [List.getElem_cons_zero] at h
      omega
    | succ k =>
      rw [List.set_cons_succ, List.map_cons, List.map_cons, List.sum_cons, List.sum_cons]
      have := ih (k := k) (by simpa using hk) (by simpa using h)
      omega

/-- What an item's labels may be. -/
def SpB (xs : List It) (x : It) (i : Nat) : Prop := ibit x.label i = true ∨ ∃ id y, Reach xs x.frm id ∧ fnd xs id = some y ∧ ibit y.label i = true
/-- What the rounds keep. -/
def InvL (xs : List It) (zs : List Int) : Prop :=
  zs.length = xs.length ∧ ∀ k (h : k < xs.length) (h' : k < zs.length), OkI zs[k] ∧ (∀ i, ibit xs[k].label i = true → ibit zs[k] i = true) ∧ (∀ i, ibit zs[k] i = true → SpB xs xs[k] i)
theorem InvL.start {xs : List It} (h : ∀ x ∈ xs, OkI x.label) : InvL xs (xs.map (·.label)) :=
  ⟨by simp, fun k h1 h2 => by
    rw [List.getElem_map]
    exact ⟨h _ (List.getElem_mem _), fun i hi => hi, fun i hi => .inl hi⟩⟩
theorem InvL.step {xs : List It} {zs : List Int} (h : InvL xs zs) {k m : Nat} (hk : k < xs.length) (hm : m < xs.length) (hk' : k < zs.length) (hm' : m < zs.length) {id : Int} (hid : id ∈ xs[k].frm) (hf : fnd xs id = some xs[m]) : InvL xs (zs.set k (bor zs[k] zs[m])) := by
  refine ⟨by rw [List.length_set]; exact h.1, fun j h1 h2 => ?_⟩
  by_cases hj : k = j
  · subst hj
    rw [List.getElem_set_self]
    obtain ⟨a1, a2, a3⟩ := h.2 k hk hk'
    obtain ⟨b1, b2, b3⟩ := h.2 m hm hm'
    refine ⟨bor_ok _ _, fun i hi => by rw [ibit_bor, a2 i hi, Bool.true_or], fun i hi => ?_⟩
    rw [ibit_bor, Bool.or_eq_true] at hi
    rcases hi with hi | hi
    · exact a3 i hi
    · have hr : Reach xs xs[k].frm id := .base id hid (by rw [hf]; rfl)
      rcases b3 i hi with h | ⟨id', y, hr', hy, hb⟩
      · exact .inr ⟨id, xs[m], hr, hf, h⟩
      · exact .inr ⟨id', y, hr.trans hf hr', hy, hb⟩
  · rw [List.getElem_set_ne hj]
    exact h.2 j h1 (by rw [List.length_set] at h2; exact h2)
/-- The place of an origin has nothing new. -/
def ClosedAt (xs : List It) (zs : List Int) (k : Nat) (id : Int) : Prop := ∀ m (hm : m < xs.length) (hm' : m < zs.length) (hk' : k < zs.length), FI xs id m → bor zs[k] zs[m] = zs[k]
theorem FI.place {xs : List It} {id : Int} {y : It} (hy : fnd xs id = some y) : ∃ m, ∃ hm : m < xs.length, FI xs id m ∧ xs[m] = y := by
  unfold fnd at hy
  obtain ⟨h1, m, hm, h2, h3⟩ := List.find?_eq_some_iff_getElem.1 hy
  have hn : ∀ i (h : i < m), xs[i].id ≠ id := fun i hi => by simpa using h3 i hi
  have hf : fnd xs id = some xs[m] := fnd_at hm (by rw [h2]; simpa using h1) hn
  exact ⟨m, hm, .inr ⟨m, hm, rfl, hf, hn⟩, h2⟩
theorem InvL.done {xs : List It} {zs : List Int} (h : InvL xs zs) (hc : ∀ k (hk : k < xs.length), ∀ id ∈ xs[k].frm, ClosedAt xs zs k id) : LabA xs zs := by
  refine ⟨h.1, fun k hk hk' => ?_⟩
  obtain ⟨a1, a2, a3⟩ := h.2 k hk hk'
  refine ⟨a1, fun i => ⟨a3 i, ?_⟩⟩
  rintro (hb | ⟨id, y, hr, hy, hb⟩)
  · exact a2 i hb
  · have key : ∀ id, Reach xs xs[k].frm id → ∀ m (hm : m < xs.length) (hm' : m < zs.length), FI xs id m → ∀ i, ibit zs[m] i = true → ibit zs[k] i = true := by
      intro id r
      induction r with
      | base id a b => intro m hm hm' hf i hi; exact (bor_eq a1).1 (hc k hk id a m hm hm' hk' hf) i hi
      | step id j y _ a b c ih =>
        intro m hm hm' hf i hi
        obtain ⟨m1, hm1, hf1, he⟩ := FI.place a
        have hm1' : m1 < zs.length := by rw [h.1]; exact hm1
        have := hc m1 hm1 j (by rw [he]; exact b) m hm hm' hm1' hf
        exact ih m1 hm1 hm1' hf1 i ((bor_eq (h.2 m1 hm1 hm1').1).1 this i hi)
    obtain ⟨m, hm, hf, he⟩ := FI.place hy
    have hm' : m < zs.length := by rw [h.1]; exact hm
    refine key id hr m hm hm' hf i ((h.2 m hm hm').2.1 i ?_)
    rw [he]
    exact hb

/-- The ints that a slice holds. -/
def rdL (w : World) : Value → List Int
  | .slice (some ⟨g, o, _⟩) n _ => (List.range n).map (fun k => match w.cell? ⟨g, o + k, none⟩ with | some (.int _ z) => z | _ => 0)
  | _ => []
theorem rdL_row {B : Nat} {w : World} {v : Value} {zs : List Int} (h : w.ownsRow B 3 1 v zs.length (zs.flatMap celI)) : uS (rdL w v) = uS zs := by
  rcases h.2 with ⟨rfl, h0⟩ | ⟨g, cap, cur, rfl, -⟩
  · obtain rfl : zs = [] := List.length_eq_zero_iff.1 h0
    rfl
  · congr 1
    unfold rdL
    refine List.ext_getElem (by simp) fun k h1 h2 => ?_
    rw [List.getElem_map, List.getElem_range]
    have hc := h.cellAt k (by simpa using h2)
    rw [celI_map, List.getElem?_map, List.getElem?_eq_getElem h2] at hc
    rw [Nat.zero_add, hc]
    rfl
def bof : Value → Nat
  | .bool true => 1
  | _ => 0

end Go.Proofs.Ythdhlocoiipbaaa
