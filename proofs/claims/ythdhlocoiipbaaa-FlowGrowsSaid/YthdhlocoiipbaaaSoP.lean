/-
  A sorted list compacted: increasing, with the same members. Nothing is asked.
-/
import Derived.Test.YthdhlocoiipbaaaSoA
import Derived.Shelf.Slices.In.SortNone
import Derived.Sort.OwnSortedInts
namespace Go.Proofs.Ythdhlocoiipbaaa
set_option linter.unusedVariables false
set_option linter.unusedSimpArgs false
open Go.RowKit

/-- The members in increasing order, each once. -/
def srt (l : List Int) : List Int := Lib.compact (l.mergeSort fun x y => decide (x ≤ y))

theorem upto_spec (d : Array Int) (hs : ∀ i j, i ≤ j → j < d.size → d[i]! ≤ d[j]!) : ∀ m, m ≤ d.size → (Lib.compactUpTo d m).Pairwise (· < ·) ∧ ∀ x, x ∈ Lib.compactUpTo d m ↔ ∃ j, j < m ∧ d[j]! = x := by
  intro m
  induction m with
  | zero => intro _; simp [Lib.compactUpTo]
  | succ m ih =>
    intro hm
    obtain ⟨h1, h2⟩ := ih (by omega)
    rw [Lib.compactUpTo_succ]
    by_cases hk : Lib.keeps d m = true
    · rw [if_pos hk]
      refine ⟨List.pairwise_append.2 ⟨h1, by simp, fun a ha b hb => ?_⟩, fun x => ?_⟩
      · rw [List.mem_singleton] at hb
        subst hb
        obtain ⟨j, hj, rfl⟩ := (h2 a).1 ha
        have h3 := hs j m (by omega) (by omega)
        have h4 : d[j]! ≠ d[m]! := by
          intro e
          have h5 := hs j (m - 1) (by omega) (by omega)
          have h6 := hs (m - 1) m (by omega) (by omega)
          have h7 : d[m]! = d[m - 1]! := by omega
          rw [Lib.keeps_neg (by omega) h7] at hk
          cases hk
        omega
      · rw [List.mem_append, h2, List.mem_singleton]
        constructor
        · rintro (⟨j, hj, e⟩ | e)
          · exact ⟨j, by omega, e⟩
          · exact ⟨m, by omega, e.symm⟩
        · rintro ⟨j, hj, e⟩
          by_cases hjm : j = m
          · subst hjm; exact .inr e.symm
          · exact .inl ⟨j, by omega, e⟩
    · rw [if_neg hk, List.append_nil]
      refine ⟨h1, fun x => (h2 x).trans ⟨fun ⟨j, hj, e⟩ => ⟨j, by omega, e⟩, fun ⟨j, hj, e⟩ => ?_⟩⟩
      by_cases hjm : j = m
      · subst hjm
        have h0 : 0 < j := by
          rcases Nat.eq_zero_or_pos j with h | h
          · subst h
            exact absurd (Lib.keeps_lt_one d 0 (by omega)) hk
          · exact h
        refine ⟨j - 1, by omega, ?_⟩
        rw [← e]
        by_cases hne : d[j]! = d[j - 1]!
        · exact hne.symm
        · exact absurd (Lib.keeps_pos hne) hk
      · exact ⟨j, by omega, e⟩

theorem srt_spec (l : List Int) : (srt l).Pairwise (· < ·) ∧ ∀ x, x ∈ srt l ↔ x ∈ l := by
  unfold srt Lib.compact
  have hsort := List.pairwise_mergeSort (le := fun x y : Int => decide (x ≤ y)) (fun a b c h1 h2 => by simp only [decide_eq_true_eq] at *; omega) (fun a b => by simp only [Bool.or_eq_true, decide_eq_true_eq]; omega) l
  generalize hm : l.mergeSort (fun x y => decide (x ≤ y)) = m at *
  have hmem : ∀ x, x ∈ m ↔ x ∈ l := fun x => by rw [← hm, List.mem_mergeSort]
  have hs : ∀ i j, i ≤ j → j < m.toArray.size → m.toArray[i]! ≤ m.toArray[j]! := by
    intro i j hij hj
    simp only [List.size_toArray] at hj
    rw [getElem!_pos _ i (by simpa using (by omega : i < m.length)), getElem!_pos _ j (by simpa using hj)]
    simp only [List.getElem_toArray]
    by_cases e : i = j
    · subst e; exact Int.le_refl _
    · have := List.pairwise_iff_getElem.1 hsort i j (by omega) hj (by omega)
      simpa using this
  obtain ⟨h1, h2⟩ := upto_spec m.toArray hs m.length (by simp)
  refine ⟨h1, fun x => (h2 x).trans ?_⟩
  rw [← hmem, List.mem_iff_getElem]
  constructor
  · rintro ⟨j, hj, e⟩
    rw [getElem!_pos _ j (by simpa using hj)] at e
    exact ⟨j, hj, by simpa using e⟩
  · rintro ⟨j, hj, e⟩
    refine ⟨j, hj, ?_⟩
    rw [getElem!_pos _ j (by simpa using hj)]
    simpa using e
/-- Two increasing lists of the same members are one. -/
theorem incr_eq {l m : List Int} (h1 : l.Pairwise (· < ·)) (h2 : m.Pairwise (· < ·)) (h : ∀ x, x ∈ l ↔ x ∈ m) : l = m := by
  induction l generalizing m with
  | nil =>
    cases m with
    | nil => rfl
    | cons b m => exact absurd ((h b).2 List.mem_cons_self) (by simp)
  | cons a l ih =>
    cases m with
    | nil => exact absurd ((h a).1 List.mem_cons_self) (by simp)
    | cons b m =>
      rw [List.pairwise_cons] at h1 h2
      have hab : a = b := by
        rcases List.mem_cons.1 ((h a).1 List.mem_cons_self) with e | e
        · exact e
        · rcases List.mem_cons.1 ((h b).2 List.mem_cons_self) with e' | e'
          · exact e'.symm
          · have := h1.1 b e'
            have := h2.1 a e
            omega
      subst hab
      congr 1
      refine ih h1.2 h2.2 fun x => ⟨fun hx => ?_, fun hx => ?_⟩
      · rcases List.mem_cons.1 ((h x).1 (List.mem_cons_of_mem _ hx)) with e | e
        · have := h1.1 x hx; omega
        · exact e
      · rcases List.mem_cons.1 ((h x).2 (List.mem_cons_of_mem _ hx)) with e | e
        · have := h2.1 x hx; omega
        · exact e
theorem srt_le (l : List Int) : (srt l).length ≤ l.length := by
  unfold srt Lib.compact Lib.compactUpTo
  rw [List.length_map]
  refine Nat.le_trans (List.length_filter_le _ _) ?_
  rw [List.length_range, List.length_mergeSort]
  exact Nat.le_refl _

theorem sortNone_any (a : Option Addr) (c : Nat) (w : World) : Calls Try.prog 47 #[.slice a 0 c] w fun e w' => e = .returned (.tuple #[]) ∧ w' = w :=
  Any.slices_Sort_int_none so189 a c w

theorem ird_nil (w : World) (A : Option Addr) (c : Nat) : IRd w (.slice A 0 c) [] := ⟨A, c, rfl, by simp, by simp, .inl rfl⟩
theorem srt_nil : srt [] = [] := by
  have := srt_le []
  exact List.length_eq_zero_iff.1 (by simpa using this)

set_option maxRecDepth 100000 in
theorem set_any (B : Nat) (v : Value) (l : List Int) (w : World) (hrow : w.ownsRow B 3 1 v l.length (l.flatMap celI)) (hl : ∀ x ∈ l, OkI x) (hn : l.length ≤ 1000000) :
    Calls Try.prog 39 #[v] w fun e w' => ∃ r, e = .returned r ∧ IRd w' r (srt l) ∧ Below B w w' := by
  by_cases h0 : l = []
  · subst h0
    obtain ⟨A, c, rfl⟩ := (SR.of_row (cs := celI) (fun x => (celI_len x).1) hrow (by simp)).form
    go_enter Try.func39, Try.ntmps39
    go_wp2_with (first
      | (go_at_call 47; (with_reducible refine (sortNone_any _ _ _).mono ?_); rintro e w1 ⟨rfl, rfl⟩)
      | (go_at_call 48; (with_reducible refine (compact_int_empty _ _ _).mono ?_); rintro e w1 ⟨rfl, rfl⟩))
    go_ret
    exact ⟨_, rfl, by rw [srt_nil]; exact ird_nil _ _ _, Below.refl _ _⟩
  · have hp : 0 < l.length := List.length_pos_iff.2 h0
    have hr2 := hrow
    rw [celI_map] at hr2
    rcases hr2.2 with ⟨-, h⟩ | ⟨g, cap, cur, rfl, hBg, hb, h1, h2, h3, h4⟩
    · omega
    · have htk : cur.toList.take l.length = l.map (Value.int .i64) := by rw [← h4, Nat.mul_one]
      have hH := Go.holds_of_blockI hb htk
      have hS := sort_int g 0 cap l w hH (Rg.lt_of_heap hb) (by omega)
      generalize hts : l.mergeSort (fun x y => decide (x ≤ y)) = ts at *
      have hlt : ts.length = l.length := by rw [← hts, List.length_mergeSort]
      have hsr : srt l = Lib.compact ts := by unfold srt; rw [hts]
      have hle := srt_le l
      have hmem : ∀ x ∈ srt l, OkI x := fun x hx => hl x (((srt_spec l).2 x).1 hx)
      rw [hsr] at hle hmem ⊢
      have HSR := Lib.hid hsr; clear hsr
      have hg1 : ∀ q os, w.grownBy (Go.Sort.grow (Go.Sort.putRow (Value.int .i64) (Go.Sort.ahead w q) g 0 ts.toArray) os) (some g) := fun q os => Go.grownBy_sortedI ts.toArray
      have hC : ∀ q os, _ := fun q os => compact_int g 0 cap ts (Go.Sort.grow (Go.Sort.putRow (Value.int .i64) (Go.Sort.ahead w q) g 0 ts.toArray) os)
        (Go.holds_of_blockI (Go.heap_sortedI _ hb) (Go.take_putCellsI cur ts (by omega))) (by omega) (by omega)
      have hHq : ∀ q os, Go.Sort.Holds (Value.int .i64) (Go.Sort.grow (Go.Sort.putRow (Value.int .i64) (Go.Sort.ahead w q) g 0 ts.toArray) os) g 0 ts.toArray := fun q os => Go.holds_of_blockI (Go.heap_sortedI _ hb) (Go.take_putCellsI cur ts (by omega))
      rw [hlt] at hC
      go_enter Try.func39, Try.ntmps39
      go_wp2_with (first
        | (go_at_call 47; (with_reducible refine hS.mono ?_); rintro e w1 ⟨rfl, q, os, hw1⟩)
        | (go_at_call 48; subst hw1; (with_reducible refine (hC q os).mono ?_); rintro e w2 ⟨rfl, q2, hw2⟩; have Hw2 := Lib.hid hw2; clear hw2))
      go_ret
      refine ⟨_, rfl, ?_, ?_⟩
      · refine ⟨_, _, rfl, by omega, hmem, .inr ⟨g, 0, rfl, fun k hk => ?_⟩⟩
        rw [Hw2.out]
        have hz : (Lib.compact ts ++ List.replicate (l.length - (Lib.compact ts).length) 0).toArray.size = ts.toArray.size := by simp; omega
        have hc := Go.Sort.cell?_putRow (Value.int .i64) (Go.Sort.ahead (Go.Sort.grow (Go.Sort.putRow (Value.int .i64) (Go.Sort.ahead w q) g 0 ts.toArray) os) q2) g 0 ts.toArray _ (hHq q os) hz k (by simp; omega)
        rw [hc, getElem!_pos _ k (by simp; omega)]
        simp only [List.getElem_toArray]
        rw [List.getElem_append_left hk]
      · have hg2 : (Go.Sort.grow (Go.Sort.putRow (Value.int .i64) (Go.Sort.ahead w q) g 0 ts.toArray) os).grownBy w2 (some g) := by
          have := Go.grownBy_sortedI (w := Go.Sort.grow (Go.Sort.putRow (Value.int .i64) (Go.Sort.ahead w q) g 0 ts.toArray) os) (g := g) (n := q2) (os := #[]) (Lib.compact ts ++ List.replicate (l.length - (Lib.compact ts).length) 0).toArray
          rw [Go.Sort.grow_empty] at this
          rw [Hw2.out]
          exact this
        have hg := World.grownBy.trans (hg1 q os) hg2
        exact ⟨hg.os, hg.tape, hg.output, hg.size, fun k hk => hg.block k (by have := Rg.lt_of_heap hb; omega) (by simp; omega)⟩

end Go.Proofs.Ythdhlocoiipbaaa
