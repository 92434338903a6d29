/-
  A row of duties of one's own: read, changed at a place, begun anew. Nothing is asked.
-/
import Derived.Test.YtlekdhhgjhakgaaRcA
import Derived.Test.YtlekdhhgjhakgaaLwC
namespace Go.Proofs.Ytlekdhhgjhakgaa
set_option linter.unusedVariables false
set_option linter.unusedSimpArgs false
open Go.RowKit
theorem flat_setA : ∀ (l : List (Int × Int)) (k : Nat) (x : Int) (h : k < l.length), (l.flatMap reC).set (k * 2) (.int .i64 x) = (l.set k (x, l[k].2)).flatMap reC
  | r :: l, 0, x, _ => rfl
  | r :: l, k + 1, x, h => by
    have h1 := flat_setA l k x (by simpa using h)
    rw [show (k + 1) * 2 = k * 2 + 1 + 1 by omega]
    show Value.int .i64 r.1 :: .int .i64 r.2 :: (l.flatMap reC).set (k * 2) (.int .i64 x) = _
    rw [h1]
    rfl
theorem flat_setB : ∀ (l : List (Int × Int)) (k : Nat) (x : Int) (h : k < l.length), (l.flatMap reC).set (k * 2 + 1) (.int .i64 x) = (l.set k (l[k].1, x)).flatMap reC
  | r :: l, 0, x, _ => rfl
  | r :: l, k + 1, x, h => by
    have h1 := flat_setB l k x (by simpa using h)
    rw [show (k + 1) * 2 + 1 = k * 2 + 1 + 1 + 1 by omega]
    show Value.int .i64 r.1 :: .int .i64 r.2 :: (l.flatMap reC).set (k * 2 + 1) (.int .i64 x) = _
    rw [h1]
    rfl
section
variable {B g n c : Nat} {w : World} {A : Option Addr} {l : List (Int × Int)}
theorem own_parts (h : w.ownsRow B 56 2 (.slice A l.length c) l.length (l.flatMap reC)) (h0 : 0 < l.length) :
    ∃ g cur, A = some ⟨g, 0, none⟩ ∧ B ≤ g ∧ w.heap[g]? = some (.cells cur 56) ∧ l.length ≤ c ∧ c ≤ maxLen ∧ cur.size = c * 2 ∧ cur.toList.take (l.length * 2) = l.flatMap reC := by
  rcases h.2 with ⟨-, h1⟩ | ⟨g', cap, cur, hv, hb, hg, h1, h2, h3, h4⟩
  · omega
  · injection hv with e1 e2 e3
    subst e1 e3
    exact ⟨g', cur, rfl, hb, hg, h1, h2, h3, h4⟩
/-- What is to be read of a row of one's own. -/
theorem own_at (h : w.ownsRow B 56 2 (.slice A l.length c) l.length (l.flatMap reC)) (hl : l.length ≤ 1000000) (h0 : 0 < l.length) :
    ∃ g, A = some ⟨g, 0, none⟩ ∧ B ≤ g ∧ l.length ≤ c ∧ g < w.heap.size ∧ (∀ o, w.frozen? ⟨g, o, none⟩ = false) ∧ ∀ k (hk : k < l.length), w.cell? ⟨g, k * 2, none⟩ = some (.int .i64 l[k].1) ∧ w.cell? ⟨g, k * 2 + 1, none⟩ = some (.int .i64 l[k].2) := by
  obtain ⟨g, cur, rfl, hb, hg, h1, -, -, -⟩ := own_parts h h0
  refine ⟨g, rfl, hb, h1, Rg.lt_of_heap hg, fun o => tab_frozen hg, fun k hk => ?_⟩
  obtain ⟨g', e, -, h2, h3⟩ := re_at (sr_row h hl) k hk
  injection e with e
  injection e with e
  subst e
  exact ⟨h2, h3⟩
theorem own_put {l' : List (Int × Int)} (h : w.ownsRow B 56 2 (.slice (some ⟨g, 0, none⟩) l.length c) l.length (l.flatMap reC)) (h0 : 0 < l.length) (o : Nat) (u : Value) (ho : o < l.length * 2) (hl : l'.length = l.length) (he : (l.flatMap reC).set o u = l'.flatMap reC) :
    (w.setCell ⟨g, o, none⟩ u).ownsRow B 56 2 (.slice (some ⟨g, 0, none⟩) l'.length c) l'.length (l'.flatMap reC) := by
  obtain ⟨g', cur, e, hb, hg, h1, h2, h3, h4⟩ := own_parts h h0
  injection e with e
  injection e with e
  subst e
  have h5 := h.1
  rw [hl]
  refine ⟨by rw [← he, List.length_set]; exact h5, .inr ⟨g, c, cur.setIfInBounds o u, rfl, hb, heap_setCell_row _ hg, h1, h2, by rw [Array.size_setIfInBounds]; exact h3, ?_⟩⟩
  rw [← he, ← h4, Array.toList_setIfInBounds, List.take_set]
theorem own_take (h : w.ownsRow B 56 2 (.slice (some ⟨g, 0, none⟩) l.length c) l.length (l.flatMap reC)) (h0 : 0 < l.length) (k : Nat) (hk : k ≤ l.length) :
    w.ownsRow B 56 2 (.slice (some ⟨g, 0, none⟩) (l.take k).length c) (l.take k).length ((l.take k).flatMap reC) := by
  obtain ⟨g', cur, e, hb, hg, h1, h2, h3, h4⟩ := own_parts h h0
  injection e with e
  injection e with e
  subst e
  have hf : ∀ (m : List (Int × Int)) (k : Nat), (m.take k).flatMap reC = (m.flatMap reC).take (k * 2) := by
    intro m
    induction m with
    | nil => intro k; simp
    | cons r m ih =>
      intro k
      cases k with
      | zero => rfl
      | succ k =>
        rw [List.take_succ_cons, List.flatMap_cons, List.flatMap_cons, ih, List.take_append]
        rw [List.take_of_length_le (show (reC r).length ≤ (k + 1) * 2 by simp [reC]; omega), show (k + 1) * 2 - (reC r).length = k * 2 by simp [reC]; omega]
  have hlen : (l.take k).length = k := by rw [List.length_take]; omega
  have h5 : (l.flatMap reC).length = l.length * 2 := flat_len (cs := reC) (sz := 2) (fun _ => rfl) l
  rw [hlen]
  refine ⟨by rw [hf, List.length_take, h5]; omega, .inr ⟨g, c, cur, rfl, hb, hg, by omega, h2, h3, ?_⟩⟩
  rw [hf, ← h4, List.take_take, Nat.min_eq_left (by omega)]
/-- The cells behind a place. -/
theorem own_drop (h : w.ownsRow B 56 2 (.slice (some ⟨g, 0, none⟩) l.length c) l.length (l.flatMap reC)) (hl : l.length ≤ 1000000) (k : Nat) : ∀ j u, ((l.drop k).flatMap reC)[j]? = some u → w.cell? ⟨g, k * 2 + j, none⟩ = some u := fun j u hj => by
  obtain ⟨i, hi, r, hr, rfl, hv⟩ := flat_row (cs := reC) (sz := 2) (fun _ => rfl) (l.drop k) j u hj
  have hi2 : k + i < l.length := by rw [List.length_drop] at hi; omega
  rw [List.getElem_drop] at hv
  obtain ⟨b', c', h1, h2, h3⟩ := sr_row h hl
  injection h1 with e1 _ _
  obtain ⟨g', h4, h5⟩ := h3.resolve_left (fun e => by rw [e] at hi2; exact absurd hi2 (Nat.not_lt_zero _))
  rw [h4] at e1
  injection e1 with e1
  injection e1 with e1
  subst e1
  rw [show k * 2 + (i * 2 + r) = (k + i) * 2 + r by omega]
  exact h5 (k + i) hi2 r u hv
end
theorem okD_set {l : List (Int × Int)} {k : Nat} {d : Int × Int} (h : ∀ x ∈ l, OkD x) (hd : OkD d) : ∀ x ∈ l.set k d, OkD x := fun x hx => by
  rcases List.mem_or_eq_of_mem_set hx with h1 | rfl
  · exact h x h1
  · exact hd
theorem chk_turned (s : Su) (bs : List Int) (each : Int) (l : List (Int × Int)) (h : l = (asgL s bs each).reverse) : chkF s bs each (ldF s bs each) l = decide (openE s bs each = 0) := by
  rw [h, chk_perm (List.reverse_perm _), asgL_chk]
end Go.Proofs.Ytlekdhhgjhakgaa
