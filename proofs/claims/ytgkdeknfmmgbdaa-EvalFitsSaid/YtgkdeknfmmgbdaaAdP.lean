/-
  EvalFits: the plain law of what Admit answers for a bid that is cut to its ranges. Nothing is asked.
-/
import Derived.Test.YtgkdeknfmmgbdaaAdE
namespace Go.Proofs.Ytgkdeknfmmgbdaa
set_option linter.unusedVariables false
set_option linter.unusedSimpArgs false
open Go.RowKit

/-- The values of a bid: each criterion once, cut to its range. -/
def fitN (f : Nat → Int) : Nat → List Cr → Vals
  | _, [] => []
  | k, c :: cs => (c.name, min (max (f k) c.low) c.high) :: fitN f (k + 1) cs
theorem fitN_length (f : Nat → Int) (k : Nat) (l : List Cr) : (fitN f k l).length = l.length := by
  induction l generalizing k with
  | nil => rfl
  | cons c l ih => simp [fitN, ih]
theorem fitN_snoc (f : Nat → Int) (k : Nat) (l : List Cr) (c : Cr) : fitN f k (l ++ [c]) = fitN f k l ++ [(c.name, min (max (f (k + l.length)) c.low) c.high)] := by
  induction l generalizing k with
  | nil => rfl
  | cons a l ih => simp only [List.cons_append, fitN, ih, List.length_cons]; rw [show k + 1 + l.length = k + (l.length + 1) by omega]
def apart (a b : ByteArray) : Prop := (a.toList == b.toList) = false
theorem fitN_mem (f : Nat → Int) (k : Nat) (l : List Cr) : ∀ c ∈ l, ∃ j, (c.name, min (max (f j) c.low) c.high) ∈ fitN f k l := by
  induction l generalizing k with
  | nil => intro c hc; cases hc
  | cons a l ih =>
    intro c hc
    rcases List.mem_cons.1 hc with rfl | hc
    · exact ⟨k, List.mem_cons_self⟩
    · obtain ⟨j, hj⟩ := ih (k + 1) c hc
      exact ⟨j, List.mem_cons_of_mem _ hj⟩
theorem fitN_back (f : Nat → Int) (k : Nat) (l : List Cr) : ∀ v ∈ fitN f k l, ∃ c ∈ l, v.1 = c.name ∧ ∃ j, v.2 = min (max (f j) c.low) c.high := by
  induction l generalizing k with
  | nil => intro c hc; cases hc
  | cons a l ih =>
    intro v hv
    rcases List.mem_cons.1 hv with rfl | hv
    · exact ⟨a, List.mem_cons_self, rfl, k, rfl⟩
    · obtain ⟨c, hc, h⟩ := ih (k + 1) v hv
      exact ⟨c, List.mem_cons_of_mem _ hc, h⟩
theorem fitN_apart (f : Nat → Int) (k : Nat) (l : List Cr) (h : l.Pairwise fun a b => apart a.name b.name) : (fitN f k l).Pairwise fun a b => apart a.1 b.1 := by
  induction l generalizing k with
  | nil => exact .nil
  | cons a l ih =>
    rw [List.pairwise_cons] at h
    rw [fitN, List.pairwise_cons]
    refine ⟨fun v hv => ?_, ih (k + 1) h.2⟩
    obtain ⟨c, hc, h1, -⟩ := fitN_back f (k + 1) l v hv
    show apart a.name v.1
    rw [h1]
    exact h.1 c hc
theorem lkv_none {vs : Vals} {nm : ByteArray} (h : ∀ v ∈ vs, apart v.1 nm) : lkv vs nm = (0, 0) := by
  induction vs with
  | nil => rfl
  | cons x l ih =>
    have h1 : (x.1.toList == nm.toList) = false := h x List.mem_cons_self
    rw [lkv, if_neg (by rw [h1]; decide)]
    exact ih fun v hv => h v (List.mem_cons_of_mem _ hv)
theorem lkv_mem {vs : Vals} (hp : vs.Pairwise fun a b => apart a.1 b.1) {v : ByteArray × Int} (hv : v ∈ vs) : lkv vs v.1 = (v.2, 1) := by
  induction vs with
  | nil => cases hv
  | cons x l ih =>
    rw [List.pairwise_cons] at hp
    rcases List.mem_cons.1 hv with rfl | hv
    · rw [lkv, if_pos (by simp)]
      have : lkv l v.1 = (0, 0) := lkv_none fun u hu => by
        have h := hp.1 u hu
        unfold apart at h ⊢
        rw [beq_eq_false_iff_ne] at h ⊢
        exact fun e => h e.symm
      rw [this]
    · have h1 : (x.1.toList == v.1.toList) = false := hp.1 v hv
      rw [lkv, if_neg (by rw [h1]; decide)]
      exact ih hp.2 hv
theorem ne01 : apart (nameC 0) (nameC 1) := by unfold apart; kernel_rfl
theorem ne02 : apart (nameC 0) (nameC 2) := by unfold apart; kernel_rfl
theorem ne03 : apart (nameC 0) (nameC 3) := by unfold apart; kernel_rfl
theorem ne12 : apart (nameC 1) (nameC 2) := by unfold apart; kernel_rfl
theorem ne13 : apart (nameC 1) (nameC 3) := by unfold apart; kernel_rfl
theorem ne23 : apart (nameC 2) (nameC 3) := by unfold apart; kernel_rfl
theorem crN_apart (l : List (Int × Int)) (h : l.length ≤ 4) : (crN 0 l).Pairwise fun a b => apart a.name b.name := by
  match l, h with
  | [], _ => exact .nil
  | [a], _ => simp [crN]
  | [a, b], _ => simp only [crN, List.pairwise_cons, List.mem_cons, List.not_mem_nil, or_false, forall_eq, forall_eq_or_imp]; exact ⟨ne01, fun _ h => h.elim, .nil⟩
  | [a, b, c], _ => simp only [crN, List.pairwise_cons, List.mem_cons, List.not_mem_nil, or_false, forall_eq, forall_eq_or_imp]; exact ⟨⟨ne01, ne02⟩, ne12, fun _ h => h.elim, .nil⟩
  | [a, b, c, d], _ => simp only [crN, List.pairwise_cons, List.mem_cons, List.not_mem_nil, or_false, forall_eq, forall_eq_or_imp]; exact ⟨⟨ne01, ne02, ne03⟩, ⟨ne12, ne13⟩, ne23, fun _ h => h.elim, .nil⟩
theorem fit_ok (f : Nat → Int) (l : List Cr) (hp : l.Pairwise fun a b => apart a.name b.name) (hr : ∀ c ∈ l, c.low ≤ c.high) : l.all (okC (fitN f 0 l)) = true := by
  rw [List.all_eq_true]
  intro c hc
  obtain ⟨j, hj⟩ := fitN_mem f 0 l c hc
  have h := lkv_mem (fitN_apart f 0 l hp) hj
  unfold okC
  rw [h]
  have := hr c hc
  have h1 : c.low ≤ min (max (f j) c.low) c.high := by omega
  have h2 : min (max (f j) c.low) c.high ≤ c.high := by omega
  simp [h1, h2]
theorem fit_known (f : Nat → Int) (k : Nat) (l : List Cr) : (fitN f k l).all (fun v => knownC l v.1) = true := by
  rw [List.all_eq_true]
  intro v hv
  obtain ⟨c, hc, h1, -⟩ := fitN_back f k l v hv
  unfold knownC
  rw [List.any_eq_true]
  exact ⟨c, hc, by rw [h1]; simp⟩
theorem fit_bad (vs : Vals) (l : List Cr) (c : Cr) (hc : c ∈ l) (h : c.high < c.low) : l.all (okC vs) = false := by
  rw [List.all_eq_false]
  refine ⟨c, hc, ?_⟩
  unfold okC
  intro h1
  simp only [Bool.and_eq_true, decide_eq_true_eq] at h1
  omega
theorem reqsE_four (vs : Vals) (l : List Rq) : reqsE vs l = 0 ∨ reqsE vs l = 37 ∨ reqsE vs l = 13 ∨ reqsE vs l = 1 := by
  induction l with
  | nil => exact .inl rfl
  | cons r l ih =>
    rw [reqsE]
    split
    · exact ih
    · unfold reqE
      split
      · exact .inr (.inr (.inl rfl))
      · split
        · exact .inr (.inr (.inr rfl))
        · split
          · exact .inr (.inl rfl)
          · exact .inl rfl
/-- The greatest price of the first lot with a number. -/
def mostAt (ls : List (Int × Int)) (lot : Int) : Option Int := (lotAt ls lot).map (·.2)
theorem admit_at {ls : List (Int × Int)} {cs : List Cr} {rs : List Rq} {low high lot price m : Int} {vs : Vals} (h : mostAt ls lot = some m) :
    admitI ls cs rs low high lot price vs = if price < low ∨ high < price ∨ m < price then 16 else restE cs rs vs := by
  unfold mostAt at h
  obtain ⟨l, hl, rfl⟩ := Option.map_eq_some_iff.1 h
  unfold admitI
  rw [hl]
theorem admit_none {ls : List (Int × Int)} {cs : List Cr} {rs : List Rq} {low high lot price : Int} {vs : Vals} (h : mostAt ls lot = none) : admitI ls cs rs low high lot price vs = 34 := by
  unfold mostAt at h
  have := Option.map_eq_none_iff.1 h
  unfold admitI
  rw [this]
theorem most_drop (ls : List (Int × Int)) (lot : Int) (k : Nat) (h : k < ls.length) : mostAt (ls.drop k) lot = if (ls[k].1 == lot) = true then some ls[k].2 else mostAt (ls.drop (k + 1)) lot := by
  unfold mostAt lotAt
  rw [List.drop_eq_getElem_cons h, List.find?_cons]
  cases hq : (ls[k].1 == lot) <;> simp
theorem crN_back (k : Nat) (l : List (Int × Int)) : ∀ c ∈ crN k l, ∃ z ∈ l, c.low = z.1 ∧ c.high = z.2 := by
  induction l generalizing k with
  | nil => intro c hc; cases hc
  | cons a l ih =>
    intro c hc
    rcases List.mem_cons.1 hc with rfl | hc
    · exact ⟨a, List.mem_cons_self, rfl, rfl⟩
    · obtain ⟨z, hz, h⟩ := ih (k + 1) c hc
      exact ⟨z, List.mem_cons_of_mem _ hz, h⟩
/-- What a bid's value is cut from. -/
def numF (vs : List (Int × Int)) (price : Int) (k : Nat) : Int := match vs[k]? with | some z => z.2 | none => price
theorem fitN_VR (f : Nat → Int) (k : Nat) (l : List Cr) (h : ∀ c ∈ l, (-9223372036854775808 ≤ c.low ∧ c.low ≤ 9223372036854775807) ∧ -9223372036854775808 ≤ c.high ∧ c.high ≤ 9223372036854775807) (hf : ∀ j, -9223372036854775808 ≤ f j ∧ f j ≤ 9223372036854775807) : VR (fitN f k l) := by
  intro v hv
  obtain ⟨c, hc, -, j, h2⟩ := fitN_back f k l v hv
  have h3 := h c hc
  have h4 := hf j
  rw [h2]
  omega
theorem mostAt_nil (lot : Int) : mostAt [] lot = none := rfl
end Go.Proofs.Ytgkdeknfmmgbdaa
