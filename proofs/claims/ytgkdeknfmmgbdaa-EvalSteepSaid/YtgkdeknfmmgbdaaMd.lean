/-
  The formulas that numbers determine: the reference's Made, walked. Conditions: the argument reads as a list of ints.
-/
import Derived.Test.YtgkdeknfmmgbdaaMdP
import Derived.Outline
namespace Go.Proofs.Ytgkdeknfmmgbdaa
set_option linter.unusedVariables false
set_option linter.unusedSimpArgs false
open Go.RowKit

/-- The slice v holds the ints, below the block B. -/
def IRd (w : World) (v : Value) (ls : List Int) : Prop :=
  ∃ A cap, v = .slice A ls.length cap ∧ ls.length ≤ 9223372036854775807 ∧ (∀ z ∈ ls, -9223372036854775808 ≤ z ∧ z ≤ 9223372036854775807) ∧
    (ls = [] ∨ ∃ b off, A = some ⟨b, off, none⟩ ∧ ∀ k (h : k < ls.length), w.cell? ⟨b, off + k, none⟩ = some (.int .i64 ls[k]))
theorem IRd.ext {w w' : World} {v : Value} {ls : List Int} (h : IRd w v ls) (e : Ext w w') : IRd w' v ls := by
  obtain ⟨A, cap, h1, h2, h3, h4⟩ := h
  exact ⟨A, cap, h1, h2, h3, h4.imp id fun ⟨b, off, ha, hc⟩ => ⟨b, off, ha, fun k hk => (e.cells.1 _ _ (World.block_lt_of_cell? w _ (hc k hk))).trans (hc k hk)⟩⟩

theorem FR.shape {B : Nat} {w : World} {v : Value} {ts : List Ex} (h : FR B w v ts) : ∃ A cap, v = .slice A ts.length cap := by
  obtain ⟨us, hl, ho, hr⟩ := h
  rcases ho.2 with ⟨rfl, h0⟩ | ⟨g, cap, cur, rfl, _⟩
  · exact ⟨none, 0, by rw [h0]⟩
  · exact ⟨_, cap, rfl⟩
theorem FR.trunc {B g cap : Nat} {w : World} {ts : List Ex} (h : FR B w (.slice (some ⟨g, 0, none⟩) ts.length cap) ts) (m : Nat) (hm : m ≤ ts.length) : FR B w (.slice (some ⟨g, 0, none⟩) m cap) (ts.take m) := by
  obtain ⟨us, hl, ho, hr⟩ := h
  have h5 := FR.five (B := B) hl hr
  have hlen : (ts.take m).length = m := by rw [List.length_take]; omega
  refine ⟨us.take m, by rw [List.length_take, List.length_take, hl], ?_, ?_⟩
  · rw [hlen]
    rcases ho with ⟨hxs, ⟨h', _⟩ | ⟨g', cap', cur, h', hb, hg, hnc, hcm, hcs, htake⟩⟩
    · cases h'
    · injection h' with e1 _ e3
      injection e1 with e1
      injection e1 with e1 _ _
      subst e1 e3
      have key : ∀ (us : List Value) (m : Nat), (∀ u ∈ us, (cellsV u).length = 5 ∧ ∀ c ∈ cellsV u, c.oneCell' = true) → (us.take m).flatMap cellsV = (us.flatMap cellsV).take (m * 5) := by
        intro us
        induction us with
        | nil => intro m _; simp
        | cons u us ih =>
          intro m h
          cases m with
          | zero => simp
          | succ m =>
            have hu := (h u List.mem_cons_self).1
            rw [List.take_succ_cons, List.flatMap_cons, List.flatMap_cons, ih m (fun x hx => h x (List.mem_cons_of_mem _ hx)), List.take_append, hu, show (m + 1) * 5 - 5 = m * 5 by omega, List.take_of_length_le (l := cellsV u) (by rw [hu]; omega)]
      rw [key us m h5]
      refine ⟨by rw [List.length_take, hxs]; omega, .inr ⟨g, cap, cur, rfl, hb, hg, by omega, hcm, hcs, ?_⟩⟩
      rw [← htake, List.take_take]
      congr 1
      omega
  · intro i hi hi'
    rw [List.getElem_take, List.getElem_take]
    exact hr i (by rw [hlen] at hi; omega) (by rw [List.length_take] at hi'; omega)

/-- A pair of trees in a block. -/
theorem rd_pair {S : Nat → Prop} {w : World} {s : ByteArray} {ta tb : Ex} {p : Nat} {a0 a1 a2 a3 a4 b0 b1 b2 b3 b4 : Value} (hh : w.heap[p]? = some (.cells #[a0, a1, a2, a3, a4, b0, b1, b2, b3, b4] 29))
    (ha : Rd S w ta (.agg #[a0, a1, a2, a3, a4])) (hb : Rd S w tb (.agg #[b0, b1, b2, b3, b4])) (hp : S p) : Rd S w (.mk s (0, 0) nilB [ta, tb]) (.agg #[.string s, .int .i64 0, .int .i64 0, .string nilB, .slice (some ⟨p, 0, none⟩) 2 2]) := by
  obtain ⟨h0, h1⟩ := cells10 hh
  unfold Rd
  refine ⟨_, _, rfl, I2.zero, by simp, .inr ⟨p, rfl, hp, ?_⟩⟩
  unfold RdL
  refine ⟨⟨_, h0, ha⟩, ?_⟩
  unfold RdL
  exact ⟨⟨_, h1, hb⟩, by unfold RdL; trivial⟩

end Go.Proofs.Ytgkdeknfmmgbdaa
