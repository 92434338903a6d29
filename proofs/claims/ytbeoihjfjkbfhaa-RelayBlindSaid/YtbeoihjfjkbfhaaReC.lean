/-
  Ask, where the question is there, where there are too many, and where it is taken. Condition: a relay lies at p.
-/
import Derived.Test.YtbeoihjfjkbfhaaReB
namespace Go.Proofs.Ytbeoihjfjkbfhaa
set_option linter.unusedVariables false
set_option linter.unusedSimpArgs false
open Go.RowKit
set_option maxRecDepth 100000 in
set_option maxHeartbeats 4000000 in
theorem ask_twice {B : Nat} (p : Nat) (mb : Option Nat) (r : Rl) (q : Qn) (t : Int) (w : World) (h : RW B w p mb r) (hs : ¬ q.text.size = 0) (hq : OkQ q) (hc : r.closed = false) (ho : ¬ (r.timed = true ∧ t < r.last)) (hm : q ∈ r.l.map (·.1)) :
    Calls Try.prog 20 #[.pointer (some ⟨p, 0, none⟩), .int .i64 q.who, .int .i64 t, .string q.text] w fun e w' => e = .returned (.int .i64 33) ∧ Ext w w' := by
  have hs4 := hq.2
  have hx := Ext.alloc (Ext.refl w) (.cells #[.int .i64 q.who, .string q.text] 66)
  have HX := Lib.hid hx
  have hL := fun n => look_mq ((h.ext hx).map.ext ((Ext.refl _).drewN n)) hq
  simp only [decide_eq_true hm, encQ] at hL
  obtain ⟨who, text⟩ := q
  simp only at *
  obtain ⟨hte, hti⟩ := txt_ne hs
  have h4 : ¬ (4000 : Int) < text.size := by omega
  obtain ⟨-, -, c2, -, -, c5⟩ := Rl.cells_at (h.ext hx).row
  rw [hc] at c5
  have hO := old_any p mb r t _ (h.ext hx).row
  rw [show (r.timed && decide (t < r.last)) = false by
    cases ht : r.timed
    · rfl
    · simp only [Bool.true_and, decide_eq_false_iff_not]; exact fun h => ho ⟨ht, h⟩] at hO
  obtain ⟨p9, hp9⟩ : ∃ p9, p9 = w.heap.size := ⟨_, rfl⟩
  have q0 : (w.alloc (.cells #[.int .i64 who, .string text] 66)).cell? ⟨p9, 0, none⟩ = some (.int .i64 who) := by rw [hp9]; exact cell_of_row _ _ 0 _ _ _ (alloc_at w _)
  have q1 : (w.alloc (.cells #[.int .i64 who, .string text] 66)).cell? ⟨p9, 1, none⟩ = some (.string text) := by rw [hp9]; exact cell_of_row _ _ 1 _ _ _ (alloc_at w _)
  clear hc h ho hm hq
  go_enter Try.func20, Try.ntmps20
  go_upto_region 8 with (go_at_call 26; (with_reducible refine hO.mono ?_); rintro e w1 ⟨rfl, rfl⟩)
  rw [← hp9]
  clear hp9 hO
  generalize w.alloc (.cells #[.int .i64 who, .string text] 66) = W at *
  generalize valQ r.l _ = z at *
  go_quiet (fail)
  go_wp2
  go_ret
  exact ⟨rfl, HX.out.drewN _⟩
set_option maxRecDepth 100000 in
set_option maxHeartbeats 4000000 in
theorem ask_many {B : Nat} (p : Nat) (mb : Option Nat) (r : Rl) (q : Qn) (t : Int) (w : World) (h : RW B w p mb r) (hs : ¬ q.text.size = 0) (hq : OkQ q) (hc : r.closed = false) (ho : ¬ (r.timed = true ∧ t < r.last)) (hm : ¬ q ∈ r.l.map (·.1)) (hn : 1000 ≤ r.l.length) :
    Calls Try.prog 20 #[.pointer (some ⟨p, 0, none⟩), .int .i64 q.who, .int .i64 t, .string q.text] w fun e w' => e = .returned (.int .i64 2) ∧ Ext w w' := by
  have hs4 := hq.2
  have hx := Ext.alloc (Ext.refl w) (.cells #[.int .i64 q.who, .string q.text] 66)
  have HX := Lib.hid hx
  have hL := fun n => look_mq ((h.ext hx).map.ext ((Ext.refl _).drewN n)) hq
  simp only [decide_eq_false hm, encQ] at hL
  have hLen := fun n => len_mq ((h.ext hx).map.ext ((Ext.refl _).drewN n)) 3
  obtain ⟨who, text⟩ := q
  simp only at *
  obtain ⟨hte, hti⟩ := txt_ne hs
  have h4 : ¬ (4000 : Int) < text.size := by omega
  obtain ⟨-, -, c2, -, -, c5⟩ := Rl.cells_at (h.ext hx).row
  rw [hc] at c5
  have hO := old_any p mb r t _ (h.ext hx).row
  rw [show (r.timed && decide (t < r.last)) = false by
    cases ht : r.timed
    · rfl
    · simp only [Bool.true_and, decide_eq_false_iff_not]; exact fun h => ho ⟨ht, h⟩] at hO
  obtain ⟨p9, hp9⟩ : ∃ p9, p9 = w.heap.size := ⟨_, rfl⟩
  have q0 : (w.alloc (.cells #[.int .i64 who, .string text] 66)).cell? ⟨p9, 0, none⟩ = some (.int .i64 who) := by rw [hp9]; exact cell_of_row _ _ 0 _ _ _ (alloc_at w _)
  have q1 : (w.alloc (.cells #[.int .i64 who, .string text] 66)).cell? ⟨p9, 1, none⟩ = some (.string text) := by rw [hp9]; exact cell_of_row _ _ 1 _ _ _ (alloc_at w _)
  clear hc h ho hm hq
  go_enter Try.func20, Try.ntmps20
  go_upto_region 8 with (go_at_call 26; (with_reducible refine hO.mono ?_); rintro e w1 ⟨rfl, rfl⟩)
  rw [← hp9]
  clear hp9 hO
  generalize w.alloc (.cells #[.int .i64 who, .string text] 66) = W at *
  generalize valQ r.l _ = z at *
  have hn2 : (1000 : Int) ≤ (r.l.length : Nat) := by omega
  generalize r.l.length = len at *
  clear hn
  go_quiet (fail)
  go_wp2
  go_ret
  exact ⟨rfl, HX.out.drewN _⟩
end Go.Proofs.Ytbeoihjfjkbfhaa
