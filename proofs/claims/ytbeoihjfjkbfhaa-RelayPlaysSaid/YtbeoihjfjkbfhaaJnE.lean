/-
  Joined: the lemmas of this claim that other texts of it use, part 5. Nothing is asked.
-/
import Derived.Test.YtbeoihjfjkbfhaaJnD
import Derived.OpenShut
namespace Go.Proofs.Ytbeoihjfjkbfhaa
set_option linter.unusedVariables false
set_option linter.unusedSimpArgs false
open Go.RowKit
theorem len_nil (t : TypeId) (k e : TypeId) (ht : Try.prog.underlying t = some (.map k e)) (ty : TypeId) (w : World) : (Builtin.len_ #[t] ty #[.map none]).run Try.prog w = .ok (.int .i64 0) w := by
  simp [Builtin.len_, run_underlying ht, goInt, Result.andThen]
theorem under54 : Try.prog.underlying 54 = some (.map 66 3) := Try.underlying54
theorem len_mq {B : Nat} {w : World} {mb : Option Nat} {l : List (Qn × Int)} (h : MQ B w mb l) (ty : TypeId) : (Builtin.len_ #[54] ty #[.map mb]).run Try.prog w = .ok (.int .i64 (l.length : Nat)) w := by
  cases mb with
  | none =>
    rw [show l = [] from h]
    exact len_nil 54 66 3 under54 ty w
  | some b =>
    have := MP.len h.2 under54 ty
    rw [mapL_len] at this
    exact this
theorem waiting_any {B : Nat} (p : Nat) (mb : Option Nat) (r : Rl) (w : World) (h : RW B w p mb r) :
    Calls Try.prog 22 #[.pointer (some ⟨p, 0, none⟩)] w fun e w' => e = .returned (.int .i64 (r.l.length : Nat)) ∧ w' = w := by
  obtain ⟨-, -, c2, -, -, -⟩ := Rl.cells_at h.row
  have hl := len_mq h.map 3
  generalize r.l.length = n at *
  clear h
  go_enter Try.func22, Try.ntmps22
  go_wp2
  go_ret
  exact ⟨rfl, rfl⟩
theorem waiting_nil (w : World) : Calls Try.prog 22 #[.pointer none] w fun e w' => e = .returned (.int .i64 0) ∧ w' = w := by
  go_enter Try.func22, Try.ntmps22
  go_wp2
  go_ret
  exact ⟨rfl, rfl⟩
def askF (r : Rl) (q : Qn) (t : Int) : Int × Rl :=
  if q.text.size = 0 ∨ 4000 < q.text.size then (1, r)
  else if r.closed = true then (31, r)
  else if r.timed = true ∧ t < r.last then (32, r)
  else if q ∈ r.l.map (·.1) then (33, r)
  else if 1000 ≤ r.l.length then (2, r)
  else (0, { r with last := t, timed := true, l := r.l ++ [(q, perF r.every t)] })
set_option maxRecDepth 100000 in
set_option maxHeartbeats 2000000 in
theorem ask_nil (who t : Int) (text : ByteArray) (w : World) :
    Calls Try.prog 20 #[.pointer none, .int .i64 who, .int .i64 t, .string text] w fun e w' => e = .returned (.int .i64 1) ∧ Ext w w' := by
  go_enter Try.func20, Try.ntmps20
  go_wp2
  go_ret
  exact ⟨rfl, Ext.alloc (Ext.refl _) _⟩
theorem txt_ne {s : ByteArray} (h : ¬ s.size = 0) : ¬ s.toList = [] ∧ s.toList.isEmpty = false := by
  have h1 : ¬ s.toList = [] := by
    rw [ByteArray.toList_eq]
    intro e
    have := congrArg List.length e
    exact h (by simpa using this)
  exact ⟨h1, by simpa using h1⟩
theorem txt_empty {s : ByteArray} (h : s.size = 0) : s = ⟨#[]⟩ := ByteArray.ext (Array.eq_empty_of_size_eq_zero h)
set_option maxRecDepth 100000 in
set_option maxHeartbeats 2000000 in
theorem ask_bad (p : Nat) (who t : Int) (text : ByteArray) (w : World) (hq : text.size = 0 ∨ 4000 < text.size) :
    Calls Try.prog 20 #[.pointer (some ⟨p, 0, none⟩), .int .i64 who, .int .i64 t, .string text] w fun e w' => e = .returned (.int .i64 1) ∧ Ext w w' := by
  by_cases h0 : text.size = 0
  · obtain rfl := txt_empty h0
    clear h0 hq
    go_enter Try.func20, Try.ntmps20
    go_wp2
    go_ret
    exact ⟨rfl, Ext.alloc (Ext.refl _) _⟩
  · have hq := hq.resolve_left h0
    obtain ⟨hte, hti⟩ := txt_ne h0
    have h4 : (4000 : Int) < text.size := by omega
    go_enter Try.func20, Try.ntmps20
    go_wp2
    go_ret
    exact ⟨rfl, Ext.alloc (Ext.refl _) _⟩
/-- What a look-up gives besides. -/
def valQ (l : List (Qn × Int)) (q : Qn) : Int := match (mapL l).lookup q with
  | some (.int _ z) => z
  | _ => 0
theorem look_mq {B : Nat} {w : World} {mb : Option Nat} {l : List (Qn × Int)} (h : MQ B w mb l) {q : Qn} (hq : OkQ q) :
    (Instr.lookup 54 (.map mb) (encQ q) true).run Try.prog w = .ok (.tuple #[.int .i64 (valQ l q), .bool (decide (q ∈ l.map (·.1)))]) w := by
  have hz : (zeroValue 3).run Try.prog w = .ok (.int .i64 0) w := Try.zeroValue3 w
  cases mb with
  | none =>
    rw [show l = [] from h]
    have h1 := look_nil keQ under54 hz hq true
    rw [h1]
    rfl
  | some b =>
    have h1 := MP.look keQ under54 hz h.2 hq true
    rw [h1]
    simp only [if_true]
    rw [← mapL_keys]
    unfold valQ
    cases hl : (mapL l).lookup q with
    | none =>
      have := lookup_none.1 hl
      simp only [Option.getD_none, Option.isSome_none, decide_eq_false this]
    | some v =>
      have h2 := lookup_mem hl
      obtain ⟨⟨q', z⟩, hm, he⟩ := List.mem_map.1 h2
      simp only [Prod.mk.injEq] at he
      have h3 : q ∈ (mapL l).map (·.1) := List.mem_map.2 ⟨_, h2, rfl⟩
      rw [← he.2]
      simp only [Option.getD_some, Option.isSome_some, decide_eq_true h3]
set_option maxRecDepth 100000 in
set_option maxHeartbeats 4000000 in
theorem ask_closed {B : Nat} (p : Nat) (mb : Option Nat) (r : Rl) (q : Qn) (t : Int) (w : World) (h : RW B w p mb r) (hs : ¬ q.text.size = 0) (hs4 : q.text.size ≤ 4000) (hc : r.closed = true) :
    Calls Try.prog 20 #[.pointer (some ⟨p, 0, none⟩), .int .i64 q.who, .int .i64 t, .string q.text] w fun e w' => e = .returned (.int .i64 31) ∧ Ext w w' := by
  obtain ⟨who, text⟩ := q
  simp only at *
  obtain ⟨hte, hti⟩ := txt_ne hs
  have h4 : ¬ (4000 : Int) < text.size := by omega
  have hx := Ext.alloc (Ext.refl w) (.cells #[.int .i64 who, .string text] 66)
  obtain ⟨-, -, -, -, -, c5⟩ := Rl.cells_at (h.ext hx).row
  rw [hc] at c5
  have hpl : p < (w.alloc (.cells #[.int .i64 who, .string text] 66)).heap.size := (h.ext hx).lt
  clear hc h
  go_enter Try.func20, Try.ntmps20
  go_wp2
  go_ret
  exact ⟨rfl, hx⟩
set_option maxRecDepth 100000 in
set_option maxHeartbeats 4000000 in
theorem ask_old {B : Nat} (p : Nat) (mb : Option Nat) (r : Rl) (q : Qn) (t : Int) (w : World) (h : RW B w p mb r) (hs : ¬ q.text.size = 0) (hs4 : q.text.size ≤ 4000) (hc : r.closed = false) (ho : r.timed = true ∧ t < r.last) :
    Calls Try.prog 20 #[.pointer (some ⟨p, 0, none⟩), .int .i64 q.who, .int .i64 t, .string q.text] w fun e w' => e = .returned (.int .i64 32) ∧ Ext w w' := by
  obtain ⟨who, text⟩ := q
  simp only at *
  obtain ⟨hte, hti⟩ := txt_ne hs
  have h4 : ¬ (4000 : Int) < text.size := by omega
  have hx := Ext.alloc (Ext.refl w) (.cells #[.int .i64 who, .string text] 66)
  obtain ⟨-, -, -, -, -, c5⟩ := Rl.cells_at (h.ext hx).row
  rw [hc] at c5
  have hO := old_any p mb r t _ (h.ext hx).row
  rw [show (r.timed && decide (t < r.last)) = true by simp [ho.1, ho.2]] at hO
  clear hc h ho
  go_enter Try.func20, Try.ntmps20
  go_wp2_with (go_at_call 26; (with_reducible refine hO.mono ?_); rintro e w1 ⟨rfl, rfl⟩)
  go_ret
  exact ⟨rfl, hx⟩
end Go.Proofs.Ytbeoihjfjkbfhaa

namespace Go.Proofs.Ytbeoihjfjkbfhaa
set_option linter.unusedVariables false
set_option linter.unusedSimpArgs false
open Go.RowKit
set_option maxRecDepth 100000 in
set_option maxHeartbeats 4000000 in
theorem ask_twice {B : Nat} (p : Nat) (mb : Option Nat) (r : Rl) (q : Qn) (t : Int) (w : World) (h : RW B w p mb r) (hs : ¬ q.text.size = 0) (hq : OkQ q) (hc : r.closed = false) (ho : ¬ (r.timed = true ∧ t < r.last)) (hm : q ∈ r.l.map (·.1)) :
    Calls Try.prog 20 #[.pointer (some ⟨p, 0, none⟩), .int .i64 q.who, .int .i64 t, .string q.text] w fun e w' => e = .returned (.int .i64 33) ∧ Ext w w' := by
  have hs4 := hq.2
  have hx := Ext.alloc (Ext.refl w) (.cells #[.int .i64 q.who, .string q.text] 66)
  have HX := Lib.hid hx
  have hL := fun n => look_mq ((h.ext hx).map.ext ((Ext.refl _).drewN n)) hq
  simp only [decide_eq_true hm, encQ] at hL
  obtain ⟨who, text⟩ := q
  simp only at *
  obtain ⟨hte, hti⟩ := txt_ne hs
  have h4 : ¬ (4000 : Int) < text.size := by omega
  obtain ⟨-, -, c2, -, -, c5⟩ := Rl.cells_at (h.ext hx).row
  rw [hc] at c5
  have hO := old_any p mb r t _ (h.ext hx).row
  rw [show (r.timed && decide (t < r.last)) = false by
    cases ht : r.timed
    · rfl
    · simp only [Bool.true_and, decide_eq_false_iff_not]; exact fun h => ho ⟨ht, h⟩] at hO
  obtain ⟨p9, hp9⟩ : ∃ p9, p9 = w.heap.size := ⟨_, rfl⟩
  have q0 : (w.alloc (.cells #[.int .i64 who, .string text] 66)).cell? ⟨p9, 0, none⟩ = some (.int .i64 who) := by rw [hp9]; exact cell_of_row _ _ 0 _ _ _ (alloc_at w _)
  have q1 : (w.alloc (.cells #[.int .i64 who, .string text] 66)).cell? ⟨p9, 1, none⟩ = some (.string text) := by rw [hp9]; exact cell_of_row _ _ 1 _ _ _ (alloc_at w _)
  clear hc h ho hm hq
  go_enter Try.func20, Try.ntmps20
  go_upto_region 8 with (go_at_call 26; (with_reducible refine hO.mono ?_); rintro e w1 ⟨rfl, rfl⟩)
  rw [← hp9]
  clear hp9 hO
  generalize w.alloc (.cells #[.int .i64 who, .string text] 66) = W at *
  generalize valQ r.l _ = z at *
  go_quiet (fail)
  go_wp2
  go_ret
  exact ⟨rfl, HX.out.drewN _⟩
set_option maxRecDepth 100000 in
set_option maxHeartbeats 4000000 in
theorem ask_many {B : Nat} (p : Nat) (mb : Option Nat) (r : Rl) (q : Qn) (t : Int) (w : World) (h : RW B w p mb r) (hs : ¬ q.text.size = 0) (hq : OkQ q) (hc : r.closed = false) (ho : ¬ (r.timed = true ∧ t < r.last)) (hm : ¬ q ∈ r.l.map (·.1)) (hn : 1000 ≤ r.l.length) :
    Calls Try.prog 20 #[.pointer (some ⟨p, 0, none⟩), .int .i64 q.who, .int .i64 t, .string q.text] w fun e w' => e = .returned (.int .i64 2) ∧ Ext w w' := by
  have hs4 := hq.2
  have hx := Ext.alloc (Ext.refl w) (.cells #[.int .i64 q.who, .string q.text] 66)
  have HX := Lib.hid hx
  have hL := fun n => look_mq ((h.ext hx).map.ext ((Ext.refl _).drewN n)) hq
  simp only [decide_eq_false hm, encQ] at hL
  have hLen := fun n => len_mq ((h.ext hx).map.ext ((Ext.refl _).drewN n)) 3
  obtain ⟨who, text⟩ := q
  simp only at *
  obtain ⟨hte, hti⟩ := txt_ne hs
  have h4 : ¬ (4000 : Int) < text.size := by omega
  obtain ⟨-, -, c2, -, -, c5⟩ := Rl.cells_at (h.ext hx).row
  rw [hc] at c5
  have hO := old_any p mb r t _ (h.ext hx).row
  rw [show (r.timed && decide (t < r.last)) = false by
    cases ht : r.timed
    · rfl
    · simp only [Bool.true_and, decide_eq_false_iff_not]; exact fun h => ho ⟨ht, h⟩] at hO
  obtain ⟨p9, hp9⟩ : ∃ p9, p9 = w.heap.size := ⟨_, rfl⟩
  have q0 : (w.alloc (.cells #[.int .i64 who, .string text] 66)).cell? ⟨p9, 0, none⟩ = some (.int .i64 who) := by rw [hp9]; exact cell_of_row _ _ 0 _ _ _ (alloc_at w _)
  have q1 : (w.alloc (.cells #[.int .i64 who, .string text] 66)).cell? ⟨p9, 1, none⟩ = some (.string text) := by rw [hp9]; exact cell_of_row _ _ 1 _ _ _ (alloc_at w _)
  clear hc h ho hm hq
  go_enter Try.func20, Try.ntmps20
  go_upto_region 8 with (go_at_call 26; (with_reducible refine hO.mono ?_); rintro e w1 ⟨rfl, rfl⟩)
  rw [← hp9]
  clear hp9 hO
  generalize w.alloc (.cells #[.int .i64 who, .string text] 66) = W at *
  generalize valQ r.l _ = z at *
  have hn2 : (1000 : Int) ≤ (r.l.length : Nat) := by omega
  generalize r.l.length = len at *
  clear hn
  go_quiet (fail)
  go_wp2
  go_ret
  exact ⟨rfl, HX.out.drewN _⟩
end Go.Proofs.Ytbeoihjfjkbfhaa

namespace Go.Proofs.Ytbeoihjfjkbfhaa
set_option linter.unusedVariables false
set_option linter.unusedSimpArgs false
open Go.RowKit
theorem put_new {l : List (Qn × Int)} {q : Qn} (h : ¬ q ∈ l.map (·.1)) (z : Int) : putL (mapL l) q (.int .i64 z) = mapL (l ++ [(q, z)]) := by
  unfold putL
  rw [mapL_keys, if_neg h]
  simp [mapL]
theorem perF_ok {every t : Int} (ht : OkI t) : OkI (perF every t) := by
  have h1 : 1 ≤ max every 1 := by omega
  have h2 := tdiv_in ht h1
  unfold perF
  rw [perF_tdiv _ t h1]
  split
  · exact h2.2 (by assumption)
  · exact h2.1
/-- The store of the question, and what comes after. -/
def Rl.asked (r : Rl) (q : Qn) (t : Int) : Rl := { r with last := t, timed := true, l := r.l ++ [(q, perF r.every t)] }
set_option maxRecDepth 100000 in
set_option maxHeartbeats 4000000 in
theorem ask_ok {B : Nat} (p : Nat) (mb : Option Nat) (r : Rl) (q : Qn) (t : Int) (w : World) (h : RW B w p mb r) (hB : B ≤ w.heap.size) (hs : ¬ q.text.size = 0) (hq : OkQ q) (ht : OkI t) (hc : r.closed = false) (ho : ¬ (r.timed = true ∧ t < r.last)) (hm : ¬ q ∈ r.l.map (·.1)) (hn : ¬ 1000 ≤ r.l.length) :
    Calls Try.prog 20 #[.pointer (some ⟨p, 0, none⟩), .int .i64 q.who, .int .i64 t, .string q.text] w fun e w' => e = .returned (.int .i64 0) ∧ ∃ mb', RW B w' p mb' (r.asked q t) ∧ KW p mb w w' ∧ (mb' = mb ∨ ∃ b, mb' = some b ∧ w.heap.size ≤ b) := by
  have hs4 := hq.2
  have hx := Ext.alloc (Ext.refl w) (.cells #[.int .i64 q.who, .string q.text] 66)
  have HX := Lib.hid hx
  have hL := fun n => look_mq ((h.ext hx).map.ext ((Ext.refl _).drewN n)) hq
  simp only [decide_eq_false hm, encQ] at hL
  have hLen := fun n => len_mq ((h.ext hx).map.ext ((Ext.refl _).drewN n)) 3
  have HQ := Lib.hid hq; have HM := Lib.hid hm; have HH := Lib.hid h; have HT := Lib.hid ht; have HB := Lib.hid hB; have HN := Lib.hid hn
  obtain ⟨who, text⟩ := q
  simp only at *
  obtain ⟨hte, hti⟩ := txt_ne hs
  have h4 : ¬ (4000 : Int) < text.size := by omega
  obtain ⟨-, -, c2, c3, c4, c5⟩ := Rl.cells_at (h.ext hx).row
  rw [hc] at c5
  have HC := Lib.hid hc
  have hO := old_any p mb r t _ (h.ext hx).row
  rw [show (r.timed && decide (t < r.last)) = false by
    cases ht : r.timed
    · rfl
    · simp only [Bool.true_and, decide_eq_false_iff_not]; exact fun h => ho ⟨ht, h⟩] at hO
  obtain ⟨p9, hp9⟩ : ∃ p9, p9 = w.heap.size := ⟨_, rfl⟩
  have HR9 : Hid ((w.alloc (.cells #[.int .i64 who, .string text] 66)).heap[p9]? = some (.cells #[.int .i64 who, .string text] 66)) := Lib.hid (by rw [hp9]; exact alloc_at w _)
  have q0 : (w.alloc (.cells #[.int .i64 who, .string text] 66)).cell? ⟨p9, 0, none⟩ = some (.int .i64 who) := cell_of_row _ _ 0 _ _ _ HR9.out
  have q1 : (w.alloc (.cells #[.int .i64 who, .string text] 66)).cell? ⟨p9, 1, none⟩ = some (.string text) := cell_of_row _ _ 1 _ _ _ HR9.out
  have hmm := @run_makeMap Try.prog
  have qT : ∀ (w : World) (r : Option Nat), (binOp .eql 54 (.map r) (.map none)).run Try.prog w = .ok (.bool r.isNone) w := fun w r => run_eql_map_nil w _ _ _ r Try.underlying54
  have HRP := Lib.hid (h.ext hx).row
  have HMP := Lib.hid (h.ext hx).map
  have f2 := (Rg.cells_of HRP.out).2.1 2
  have f3 := (Rg.cells_of HRP.out).2.1 3
  have f4 := (Rg.cells_of HRP.out).2.1 4
  have hpl := Rg.lt_of_heap HRP.out
  have hpne : ¬ p = p9 := by rw [hp9]; exact Nat.ne_of_lt h.lt
  clear hc h ho hm hq ht hB hx
  go_enter Try.func20, Try.ntmps20
  go_upto_region 8 with (go_at_call 26; (with_reducible refine hO.mono ?_); rintro e w1 ⟨rfl, rfl⟩)
  rw [← hp9]
  have HP9 := Lib.hid hp9
  clear hp9 hO
  generalize w.alloc (.cells #[.int .i64 who, .string text] 66) = W at *
  generalize valQ r.l _ = z at *
  have hn2 : ¬ (1000 : Int) ≤ (r.l.length : Nat) := by omega
  obtain ⟨len, hlen⟩ : ∃ len, len = r.l.length := ⟨_, rfl⟩
  rw [← hlen] at hn2
  simp only [← hlen] at hLen
  clear hn hlen
  go_quiet (fail)
  clear hL
  cases mb with
  | none =>
    go_upto_region 14 with (fail)
    have hWr : ((W.drewN nq).alloc (.map #[] 0)).heap[p]? = some (.cells (r.cells none) 56) := ((Ext.alloc (Ext.refl (W.drewN nq)) _).block p hpl).trans HRP.out
    have e2 : ((W.drewN nq).alloc (.map #[] 0)).cell? ⟨p, 2, none⟩ = some (.map none) := (Rl.cells_at hWr).2.2.1
    have g2 := (Rg.cells_of hWr).2.1 2
    have hMn : MP encQ OkQ ((W.drewN nq).alloc (.map #[] 0)) (W.drewN nq).heap.size [] := MP.made _
    have hr0 : r.l = [] := HMP.out
    go_upto_region 15 with (fail)
    obtain ⟨b, hb⟩ : ∃ b, b = W.heap.size := ⟨_, rfl⟩
    have hbp : b ≠ p := by omega
    have hb9 : p9 ≠ b := by have := Rg.lt_of_heap HR9.out; omega
    have hWb : (W.drewN nq).heap.size = b := hb.symm
    have hW0 : W.heap.size = b := hb.symm
    have hbw : w.heap.size ≤ b := by have := HX.out.size; omega
    have h15 := heap_setCell_row (o := 2) (.map (some (W.drewN nq).heap.size)) hWr
    rw [hWb] at h15 hMn
    simp only [hW0]
    have h16 : (((W.drewN nq).alloc (.map #[] 0)).setCell ⟨p, 2, none⟩ (.map (some b))).heap[p]? = some (.cells (r.cells (some b)) 56) := h15
    have h9X : (((W.drewN nq).alloc (.map #[] 0)).setCell ⟨p, 2, none⟩ (.map (some b))).heap[p9]? = some (.cells #[.int .i64 who, .string text] 66) := by
      rw [heap_setCell_other _ (Ne.symm hpne)]
      exact ((Ext.alloc (Ext.refl (W.drewN nq)) _).block p9 (Rg.lt_of_heap HR9.out)).trans HR9.out
    have hMX : MP encQ OkQ (((W.drewN nq).alloc (.map #[] 0)).setCell ⟨p, 2, none⟩ (.map (some b))) b (mapL r.l) := by
      rw [hr0]
      exact hMn.setCell hbp _
    have hKX : KW p (some b) w (((W.drewN nq).alloc (.map #[] 0)).setCell ⟨p, 2, none⟩ (.map (some b))) := (KW.of_ext ((HX.out.drewN nq).alloc _)).setCell _
    generalize ((W.drewN nq).alloc (.map #[] 0)).setCell ⟨p, 2, none⟩ (.map (some b)) = X at *
    obtain ⟨-, -, -, x3, x4, -⟩ := Rl.cells_at h16
    have y3 := (Rg.cells_of h16).2.1 3
    have y4 := (Rg.cells_of h16).2.1 4
    have ypl := Rg.lt_of_heap h16
    have H16 := Lib.hid h16; have H9X := Lib.hid h9X; have HMX := Lib.hid hMX; have HKX := Lib.hid hKX; have HB9 := Lib.hid hb9; have HBP := Lib.hid hbp; have HBW := Lib.hid hbw
    clear h15 h16 h9X hMX hKX hb9 hbp hWr e2 g2 hMn hb hWb hW0 hbw
    go_upto_region 16 with (fail)
    have hV : ((X.setCell ⟨p, 3, none⟩ (.int .i64 t)).setCell ⟨p, 4, none⟩ (.bool true)).heap[p]? = some (.cells (({ r with last := t, timed := true } : Rl).cells (some b)) 56) := by
      have h1 := heap_setCell_row (o := 3) (.int .i64 t) H16.out
      have h2 := heap_setCell_row (o := 4) (.bool true) h1
      exact h2
    have hK : KW p (some b) w ((X.setCell ⟨p, 3, none⟩ (.int .i64 t)).setCell ⟨p, 4, none⟩ (.bool true)) := (HKX.out.setCell _).setCell _
    have hbp := HBP.out
    have hMV : MP encQ OkQ ((X.setCell ⟨p, 3, none⟩ (.int .i64 t)).setCell ⟨p, 4, none⟩ (.bool true)) b (mapL r.l) := (HMX.out.setCell hbp _).setCell hbp _
    have h9V : ((X.setCell ⟨p, 3, none⟩ (.int .i64 t)).setCell ⟨p, 4, none⟩ (.bool true)).heap[p9]? = some (.cells #[.int .i64 who, .string text] 66) := by rw [heap_setCell_other _ (Ne.symm hpne), heap_setCell_other _ (Ne.symm hpne)]; exact H9X.out
    have hBb : B ≤ b := Nat.le_trans HB.out HBW.out
    have hmb : ((some b : Option Nat) = none ∨ ∃ b', some b = some b' ∧ w.heap.size ≤ b') ∧ ∀ w3, KW p (some b) w w3 → KW p none w w3 := ⟨.inr ⟨b, rfl, HBW.out⟩, fun _ h => ⟨h.os, h.tape, h.output, h.size, fun k hk hp _ => h.block k hk hp (fun e => by injection e with e; have := HBW.out; omega)⟩⟩
    generalize (X.setCell ⟨p, 3, none⟩ (.int .i64 t)).setCell ⟨p, 4, none⟩ (.bool true) = V at *
    clear x3 x4 y3 y4 ypl
    have hb9 : b ≠ p9 := by
      rintro rfl
      obtain ⟨-, -, es, ck, hb, -⟩ := hMV
      rw [h9V] at hb
      cases hb
    have hPer := Lib.hid (fun wz (hw : Ext V wz) => period_any p (some b) _ t wz ((hw.block _ (Rg.lt_of_heap hV)).trans hV) HH.out.ok.every HT.out)
    obtain ⟨per, hper⟩ : ∃ per, per = perF r.every t := ⟨_, rfl⟩
    have hPer2 : Hid (∀ wz, Ext V wz → Calls Try.prog 27 #[.pointer (some ⟨p, 0, none⟩), .int .i64 t] wz fun e w' => e = .returned (.int .i64 per) ∧ Ext wz w') := Lib.hid (fun wz hw => (hPer.out wz hw).mono fun _ _ ⟨a, b⟩ => ⟨by rw [a, hper], b ▸ Ext.refl _⟩)
    have HPE := Lib.hid hper
    obtain ⟨-, -, d2, -, -, -⟩ := Rl.cells_at hV
    have d8 : V.cell? ⟨p9, 0, none⟩ = some (.int .i64 who) := cell_of_row _ _ 0 _ _ _ h9V
    have d9 : V.cell? ⟨p9, 1, none⟩ = some (.string text) := cell_of_row _ _ 1 _ _ _ h9V
    have l1 := Rg.lt_of_heap hV
    have l9 := Rg.lt_of_heap h9V
    have KV := Lib.hid hV; have KM := Lib.hid hMV; have KK := Lib.hid hK; have KB := Lib.hid hmb; have KBB := Lib.hid hBb; have KBP := Lib.hid hbp
    clear hV hMV hK hmb hBb hbp h9V hPer hper c2 c3 c4 c5 q0 q1 f2 f3 f4 hpl hLen hmm qT
    refine Rr.wp_region [(0, .y), (1, .y), (2, .y), (3, .y), (4, .y), (5, .y), (6, .y), (7, .y)] (fun _ => (.cells #[] 29, Rg.ptr)) (by kernel_rfl) (by kernel_rfl) ?_
    (refine Rr.wr_y (by simp only [List.getElem?_toArray, List.getElem?_cons_succ, List.getElem?_cons_zero]; rfl) (by rfl) ?_
     apply Exists.intro
     refine ⟨fun wz hw _ => ?_, ?_⟩
     · have hcz := hw.cells.1
       go_simp
       (with_reducible exact Rg.up_value)
     simp only [Act.put, List.setIfInBounds_toArray, List.set_cons_zero, List.set_cons_succ])
    (refine Rr.wr_y (by simp only [List.getElem?_toArray, List.getElem?_cons_succ, List.getElem?_cons_zero]; rfl) (by rfl) ?_
     apply Exists.intro
     refine ⟨fun wz hw _ => ?_, ?_⟩
     · have hcz := hw.cells.1
       go_simp
       (with_reducible exact Rg.up_value)
     simp only [Act.put, List.setIfInBounds_toArray, List.set_cons_zero, List.set_cons_succ])
    (refine Rr.wr_y (by simp only [List.getElem?_toArray, List.getElem?_cons_succ, List.getElem?_cons_zero]; rfl) (by rfl) ?_
     apply Exists.intro
     refine ⟨fun wz hw _ => ?_, ?_⟩
     · have hcz := hw.cells.1
       go_simp
       (with_reducible exact Rg.up_value)
     simp only [Act.put, List.setIfInBounds_toArray, List.set_cons_zero, List.set_cons_succ])
    (refine Rr.wr_y (by simp only [List.getElem?_toArray, List.getElem?_cons_succ, List.getElem?_cons_zero]; rfl) (by rfl) ?_
     apply Exists.intro
     refine ⟨fun wz hw _ => ?_, ?_⟩
     · have hcz := hw.cells.1
       go_simp
       (with_reducible exact Rg.up_value)
     simp only [Act.put, List.setIfInBounds_toArray, List.set_cons_zero, List.set_cons_succ])
    (refine Rr.wr_y (by simp only [List.getElem?_toArray, List.getElem?_cons_succ, List.getElem?_cons_zero]; rfl) (by rfl) ?_
     apply Exists.intro
     refine ⟨fun wz hw _ => ?_, ?_⟩
     · have hcz := hw.cells.1
       go_simp
       (with_reducible exact Rg.up_value)
     simp only [Act.put, List.setIfInBounds_toArray, List.set_cons_zero, List.set_cons_succ])
    (refine Rr.wr_y (by simp only [List.getElem?_toArray, List.getElem?_cons_succ, List.getElem?_cons_zero]; rfl) (by rfl) ?_
     apply Exists.intro
     refine ⟨fun wz hw _ => ?_, ?_⟩
     · have hcz := hw.cells.1
       go_simp
       (with_reducible exact Rg.up_value)
     simp only [Act.put, List.setIfInBounds_toArray, List.set_cons_zero, List.set_cons_succ])
    (refine Rr.wr_y (by simp only [List.getElem?_toArray, List.getElem?_cons_succ, List.getElem?_cons_zero]; rfl) (by rfl) ?_
     apply Exists.intro
     refine ⟨fun wz hw _ => ?_, ?_⟩
     · have hcz := hw.cells.1
       go_simp
       (with_reducible exact Rg.up_value)
     simp only [Act.put, List.setIfInBounds_toArray, List.set_cons_zero, List.set_cons_succ])
    (refine Rr.wr_y (by simp only [List.getElem?_toArray, List.getElem?_cons_succ, List.getElem?_cons_zero]; rfl) (by rfl) ?_
     apply Exists.intro
     refine ⟨fun wz hw _ => ?_, ?_⟩
     · have hcz := hw.cells.1
       go_simp
       apply Rg.up_enter
       (with_reducible refine (hPer2.out _ hw).mono ?_)
       rintro e w3 ⟨rfl, hb3⟩
       exact ⟨rfl, hb3⟩
     simp only [Act.put, List.setIfInBounds_toArray, List.set_cons_zero, List.set_cons_succ])
    refine Rr.wr_nil ?_
    intro wy hy hh
    clear hh
    simp only [List.length_cons, List.length_nil, List.drop_succ_cons, List.drop_zero, Nat.reduceAdd]
    go_wp2_with (refine wpList_store rfl (.tmp 71) (.tmp 72) (.tmp 75) 54 rfl 66 3 keQ under54 b _ (by rfl) (KM.out.ext hy) ⟨who, text⟩ (by rfl) HQ.out (.int .i64 per) (by rfl) ?_; intro w3 hm3 hg3)
    go_ret
    rw [put_new HM.out, HPE.out] at hm3
    have hrow3 : w3.heap[p]? = some (.cells ((r.asked ⟨who, text⟩ t).cells (some b)) 56) := (hg3.block p (Nat.lt_of_lt_of_le l1 hy.size) (fun e => KBP.out (by injection e with e; exact e.symm))).trans ((hy.block _ l1).trans KV.out)
    refine ⟨rfl, some b, ⟨HH.out.at_, hrow3, ⟨KBB.out, hm3⟩, ⟨HH.out.ok.least, HH.out.ok.every, HT.out, ?_, ?_⟩⟩, KB.out.2 _ ((KK.out.trans (KW.of_ext hy)).grown hg3), by first | exact KB.out.1 | exact .inl rfl⟩
    · intro x hx
      rcases List.mem_append.1 hx with hx | hx
      · exact HH.out.ok.per x hx
      · rw [List.mem_singleton] at hx
        subst hx
        exact perF_ok HT.out
    · have := HN.out
      simp [Rl.asked]
      omega
  | some b =>
    go_upto_region 16 with (fail)
    have hV : ((((W.drewN nq).setCell ⟨p, 3, none⟩ (.int .i64 t)).setCell ⟨p, 4, none⟩ (.bool true))).heap[p]? = some (.cells (({ r with last := t, timed := true } : Rl).cells (some b)) 56) := by
      have h1 := heap_setCell_row (o := 3) (.int .i64 t) (show (W.drewN nq).heap[p]? = _ from HRP.out)
      have h2 := heap_setCell_row (o := 4) (.bool true) h1
      exact h2
    have hK : KW p (some b) w ((((W.drewN nq).setCell ⟨p, 3, none⟩ (.int .i64 t)).setCell ⟨p, 4, none⟩ (.bool true))) := ((KW.of_ext (HX.out.drewN nq)).setCell _).setCell _
    have hMb := HMP.out.2
    have hbp : b ≠ p := by
      rintro rfl
      obtain ⟨-, -, es, ck, hb, -⟩ := hMb
      rw [HRP.out] at hb
      cases hb
    have hMV : MP encQ OkQ ((((W.drewN nq).setCell ⟨p, 3, none⟩ (.int .i64 t)).setCell ⟨p, 4, none⟩ (.bool true))) b (mapL r.l) := hMb.of_block (by rw [heap_setCell_other _ hbp, heap_setCell_other _ hbp]; rfl)
    have h9V : ((((W.drewN nq).setCell ⟨p, 3, none⟩ (.int .i64 t)).setCell ⟨p, 4, none⟩ (.bool true))).heap[p9]? = some (.cells #[.int .i64 who, .string text] 66) := by rw [heap_setCell_other _ (Ne.symm hpne), heap_setCell_other _ (Ne.symm hpne)]; exact HR9.out
    have hBb : B ≤ b := HMP.out.1
    have hmb : ((some b : Option Nat) = some b ∨ ∃ b', some b = some b' ∧ w.heap.size ≤ b') ∧ ∀ w3, KW p (some b) w w3 → KW p (some b) w w3 := ⟨.inl rfl, fun _ h => h⟩
    generalize (((W.drewN nq).setCell ⟨p, 3, none⟩ (.int .i64 t)).setCell ⟨p, 4, none⟩ (.bool true)) = V at *
    have hb9 : b ≠ p9 := by
      rintro rfl
      obtain ⟨-, -, es, ck, hb, -⟩ := hMV
      rw [h9V] at hb
      cases hb
    have hPer := Lib.hid (fun wz (hw : Ext V wz) => period_any p (some b) _ t wz ((hw.block _ (Rg.lt_of_heap hV)).trans hV) HH.out.ok.every HT.out)
    obtain ⟨per, hper⟩ : ∃ per, per = perF r.every t := ⟨_, rfl⟩
    have hPer2 : Hid (∀ wz, Ext V wz → Calls Try.prog 27 #[.pointer (some ⟨p, 0, none⟩), .int .i64 t] wz fun e w' => e = .returned (.int .i64 per) ∧ Ext wz w') := Lib.hid (fun wz hw => (hPer.out wz hw).mono fun _ _ ⟨a, b⟩ => ⟨by rw [a, hper], b ▸ Ext.refl _⟩)
    have HPE := Lib.hid hper
    obtain ⟨-, -, d2, -, -, -⟩ := Rl.cells_at hV
    have d8 : V.cell? ⟨p9, 0, none⟩ = some (.int .i64 who) := cell_of_row _ _ 0 _ _ _ h9V
    have d9 : V.cell? ⟨p9, 1, none⟩ = some (.string text) := cell_of_row _ _ 1 _ _ _ h9V
    have l1 := Rg.lt_of_heap hV
    have l9 := Rg.lt_of_heap h9V
    have KV := Lib.hid hV; have KM := Lib.hid hMV; have KK := Lib.hid hK; have KB := Lib.hid hmb; have KBB := Lib.hid hBb; have KBP := Lib.hid hbp
    clear hV hMV hK hmb hBb hbp h9V hPer hper c2 c3 c4 c5 q0 q1 f2 f3 f4 hpl hLen hmm qT
    refine Rr.wp_region [(0, .y), (1, .y), (2, .y), (3, .y), (4, .y), (5, .y), (6, .y), (7, .y)] (fun _ => (.cells #[] 29, Rg.ptr)) (by kernel_rfl) (by kernel_rfl) ?_
    (refine Rr.wr_y (by simp only [List.getElem?_toArray, List.getElem?_cons_succ, List.getElem?_cons_zero]; rfl) (by rfl) ?_
     apply Exists.intro
     refine ⟨fun wz hw _ => ?_, ?_⟩
     · have hcz := hw.cells.1
       go_simp
       (with_reducible exact Rg.up_value)
     simp only [Act.put, List.setIfInBounds_toArray, List.set_cons_zero, List.set_cons_succ])
    (refine Rr.wr_y (by simp only [List.getElem?_toArray, List.getElem?_cons_succ, List.getElem?_cons_zero]; rfl) (by rfl) ?_
     apply Exists.intro
     refine ⟨fun wz hw _ => ?_, ?_⟩
     · have hcz := hw.cells.1
       go_simp
       (with_reducible exact Rg.up_value)
     simp only [Act.put, List.setIfInBounds_toArray, List.set_cons_zero, List.set_cons_succ])
    (refine Rr.wr_y (by simp only [List.getElem?_toArray, List.getElem?_cons_succ, List.getElem?_cons_zero]; rfl) (by rfl) ?_
     apply Exists.intro
     refine ⟨fun wz hw _ => ?_, ?_⟩
     · have hcz := hw.cells.1
       go_simp
       (with_reducible exact Rg.up_value)
     simp only [Act.put, List.setIfInBounds_toArray, List.set_cons_zero, List.set_cons_succ])
    (refine Rr.wr_y (by simp only [List.getElem?_toArray, List.getElem?_cons_succ, List.getElem?_cons_zero]; rfl) (by rfl) ?_
     apply Exists.intro
     refine ⟨fun wz hw _ => ?_, ?_⟩
     · have hcz := hw.cells.1
       go_simp
       (with_reducible exact Rg.up_value)
     simp only [Act.put, List.setIfInBounds_toArray, List.set_cons_zero, List.set_cons_succ])
    (refine Rr.wr_y (by simp only [List.getElem?_toArray, List.getElem?_cons_succ, List.getElem?_cons_zero]; rfl) (by rfl) ?_
     apply Exists.intro
     refine ⟨fun wz hw _ => ?_, ?_⟩
     · have hcz := hw.cells.1
       go_simp
       (with_reducible exact Rg.up_value)
     simp only [Act.put, List.setIfInBounds_toArray, List.set_cons_zero, List.set_cons_succ])
    (refine Rr.wr_y (by simp only [List.getElem?_toArray, List.getElem?_cons_succ, List.getElem?_cons_zero]; rfl) (by rfl) ?_
     apply Exists.intro
     refine ⟨fun wz hw _ => ?_, ?_⟩
     · have hcz := hw.cells.1
       go_simp
       (with_reducible exact Rg.up_value)
     simp only [Act.put, List.setIfInBounds_toArray, List.set_cons_zero, List.set_cons_succ])
    (refine Rr.wr_y (by simp only [List.getElem?_toArray, List.getElem?_cons_succ, List.getElem?_cons_zero]; rfl) (by rfl) ?_
     apply Exists.intro
     refine ⟨fun wz hw _ => ?_, ?_⟩
     · have hcz := hw.cells.1
       go_simp
       (with_reducible exact Rg.up_value)
     simp only [Act.put, List.setIfInBounds_toArray, List.set_cons_zero, List.set_cons_succ])
    (refine Rr.wr_y (by simp only [List.getElem?_toArray, List.getElem?_cons_succ, List.getElem?_cons_zero]; rfl) (by rfl) ?_
     apply Exists.intro
     refine ⟨fun wz hw _ => ?_, ?_⟩
     · have hcz := hw.cells.1
       go_simp
       apply Rg.up_enter
       (with_reducible refine (hPer2.out _ hw).mono ?_)
       rintro e w3 ⟨rfl, hb3⟩
       exact ⟨rfl, hb3⟩
     simp only [Act.put, List.setIfInBounds_toArray, List.set_cons_zero, List.set_cons_succ])
    refine Rr.wr_nil ?_
    intro wy hy hh
    clear hh
    simp only [List.length_cons, List.length_nil, List.drop_succ_cons, List.drop_zero, Nat.reduceAdd]
    go_wp2_with (refine wpList_store rfl (.tmp 71) (.tmp 72) (.tmp 75) 54 rfl 66 3 keQ under54 b _ (by rfl) (KM.out.ext hy) ⟨who, text⟩ (by rfl) HQ.out (.int .i64 per) (by rfl) ?_; intro w3 hm3 hg3)
    go_ret
    rw [put_new HM.out, HPE.out] at hm3
    have hrow3 : w3.heap[p]? = some (.cells ((r.asked ⟨who, text⟩ t).cells (some b)) 56) := (hg3.block p (Nat.lt_of_lt_of_le l1 hy.size) (fun e => KBP.out (by injection e with e; exact e.symm))).trans ((hy.block _ l1).trans KV.out)
    refine ⟨rfl, some b, ⟨HH.out.at_, hrow3, ⟨KBB.out, hm3⟩, ⟨HH.out.ok.least, HH.out.ok.every, HT.out, ?_, ?_⟩⟩, KB.out.2 _ ((KK.out.trans (KW.of_ext hy)).grown hg3), by first | exact KB.out.1 | exact .inl rfl⟩
    · intro x hx
      rcases List.mem_append.1 hx with hx | hx
      · exact HH.out.ok.per x hx
      · rw [List.mem_singleton] at hx
        subst hx
        exact perF_ok HT.out
    · have := HN.out
      simp [Rl.asked]
      omega
end Go.Proofs.Ytbeoihjfjkbfhaa

namespace Go.Proofs.Ytbeoihjfjkbfhaa
set_option linter.unusedVariables false
set_option linter.unusedSimpArgs false
open Go.RowKit

section
variable {κ : Type} {enc : κ → Value} {good : κ → Prop} {w w' : World} {o : Option Nat} {r : Nat} {m left : List (κ × Value)}
/-- A map, or none, of the pairs m. -/
def MPO (enc : κ → Value) (good : κ → Prop) (w : World) (o : Option Nat) (m : List (κ × Value)) : Prop := match o with | none => m = [] | some b => MP enc good w b m
/-- A loop over a map, or over none. -/
def RGO (enc : κ → Value) (good : κ → Prop) (w : World) (o : Option Nat) (r : Nat) (m left : List (κ × Value)) : Prop := match o with | none => left = [] ∧ w.heap[r]? = some (.mapIter none 0 #[] 0) | some b => RG enc good w b r m left
theorem RGO.lt (h : RGO enc good w o r m left) : r < w.heap.size := by
  cases o with
  | none => exact (Array.getElem?_eq_some_iff.1 h.2).1
  | some b => exact RG.lt h
theorem RGO.ext (h : RGO enc good w o r m left) (e : Ext w w') : RGO enc good w' o r m left := by
  cases o with
  | none => exact ⟨h.1, (e.block _ (Array.getElem?_eq_some_iff.1 h.2).1).trans h.2⟩
  | some b => exact RG.ext h e
theorem RGO.kept {row : Option Nat} (h : RGO enc good w o r m left) (x : w.grownBy w' row) (hb : ∀ b, o = some b → some b ≠ row) (hr : some r ≠ row) : RGO enc good w' o r m left := by
  cases o with
  | none => exact ⟨h.1, (x.block r (Array.getElem?_eq_some_iff.1 h.2).1 hr).trans h.2⟩
  | some b => exact RG.kept h x (hb b rfl) hr
variable {ops : Array Oper} {rest : List Oper} {op : Oper} {a : Act} {Q : Exit → Act → World → Prop} {P : Program}
theorem wpList_rangeO (hg : op.guard = none) (x : Operand) (t : TypeId) (hop : op.op = Op.range t x) (k e : TypeId) (ht : P.underlying t = some (.map k e)) (o : Option Nat) (l : List (κ × Value)) (hm : a.eval x = .map o) (h : MPO enc good w o l)
    (hK : ∀ w', RGO enc good w' o w.heap.size l l → Ext w w' → w'.heap.size = w.heap.size + 1 → wpList P ops Q rest (a.put op.dst (.pointer (some ⟨w.heap.size, 0, none⟩))) w') : wpList P ops Q (op :: rest) a w := by
  cases o with
  | none =>
    refine wpList_plain hg fun K' hK' => ?_
    have hrun := run_range_nilMap (P := P) w t k e ht
    unfold Oper.wp
    simp [execOp, hop, hm, hrun, Result.andThen]
    exact hK' _ _ (hK _ ⟨h, heap_alloc_new w _⟩ (Ext.alloc (Ext.refl _) _) (by simp))
  | some b => exact wpList_range hg x t hop k e ht b l hm h hK
theorem wpList_nextO (hg : op.guard = none) (it : Operand) (hop : op.op = Op.next it false) (o : Option Nat) (r : Nat) (l left : List (κ × Value)) (hit : a.eval it = .pointer (some ⟨r, 0, none⟩)) (h : RGO enc good w o r l left)
    (hDone : left = [] → wpList P ops Q rest (a.put op.dst (.tuple #[.bool false])) w)
    (hMore : ∀ b pre x v post w', o = some b → left = pre ++ (x, v) :: post → RGO enc good w' o r l (pre ++ post) → w.grownBy w' (some r) → w'.heap.size = w.heap.size → (Instr.entry (.pointer (some ⟨r, 0, none⟩))).run P w' = .ok (.tuple #[enc x, v]) w' → w'.rangeLeft b r < w.rangeLeft b r → wpList P ops Q rest (a.put op.dst (.tuple #[.bool true, enc x, v])) w') : wpList P ops Q (op :: rest) a w := by
  cases o with
  | none =>
    refine wpList_plain hg fun K' hK' => ?_
    have hrun : (Instr.next (.pointer (some ⟨r, 0, none⟩)) false op.type).run P w = .ok (.tuple #[.bool false]) w := by
      simp only [Instr.next, getObj, Sem.run_bind, Sem.run, h.2, Result.andThen]
      rfl
    unfold Oper.wp
    simp [execOp, hop, hit, hrun, Result.andThen]
    exact hK' _ _ (hDone h.1)
  | some b =>
    refine wpList_next hg it hop b r l left hit h hDone (fun pre x v post w' h1 h2 h3 h4 h5 => hMore b pre x v post w' rfl h1 h2 h3 h4 h5 ?_)
    rw [RG.left_eq h2, RG.left_eq h, h1]
    simp
/-- How many entries are still to come. -/
def leftO (w : World) (o : Option Nat) (r : Nat) : Nat := match o with | none => 0 | some b => w.rangeLeft b r
end
theorem leftO_eq {κ : Type} {enc : κ → Value} {good : κ → Prop} {w : World} {o : Option Nat} {r : Nat} {m left : List (κ × Value)} (h : RGO enc good w o r m left) : leftO w o r = left.length := by
  cases o with
  | none => rw [h.1]; rfl
  | some b => exact RG.left_eq h
theorem RGO.good {κ : Type} {enc : κ → Value} {good : κ → Prop} {w : World} {o : Option Nat} {r : Nat} {m left : List (κ × Value)} (h : RGO enc good w o r m left) : ∀ p ∈ left, good p.1 := by
  cases o with
  | none => rw [h.1]; simp
  | some b => exact fun p hp => h.1.gd p (h.2.1 p hp)
theorem MPO.nodup {κ : Type} {enc : κ → Value} {good : κ → Prop} {w : World} {o : Option Nat} {m : List (κ × Value)} (h : MPO enc good w o m) : (m.map (·.1)).Nodup := by
  cases o with
  | none => rw [show m = [] from h]; exact List.Pairwise.nil
  | some b => exact MP.nodup h
theorem RGO.sub {κ : Type} {enc : κ → Value} {good : κ → Prop} {w : World} {o : Option Nat} {r : Nat} {m left : List (κ × Value)} (h : RGO enc good w o r m left) : ∀ p ∈ left, p ∈ m := by
  cases o with
  | none => rw [h.1]; simp
  | some b => exact fun p hp => h.2.1 p hp
theorem RGO.iter {κ : Type} {enc : κ → Value} {good : κ → Prop} {w : World} {o : Option Nat} {r : Nat} {m left : List (κ × Value)} (h : RGO enc good w o r m left) : ∃ a s q c, w.heap[r]? = some (.mapIter a s q c) := by
  cases o with
  | none => exact ⟨_, _, _, _, h.2⟩
  | some b =>
    obtain ⟨-, -, es, clock, since, seen, c0, hb, hr, -⟩ := h
    exact ⟨_, _, _, _, hr⟩
theorem in_rest {α : Type} {pre post : List α} {x y : α} (h : y ∈ pre ++ x :: post) (hne : y ≠ x) : y ∈ pre ++ post := by
  rcases List.mem_append.1 h with h | h
  · exact List.mem_append_left _ h
  · rcases List.mem_cons.1 h with h | h
    · exact absurd h hne
    · exact List.mem_append_right _ h
theorem perm_mid {α β : Type} (f : α → β) (pre post : List α) (x : α) (acc : List β) {t : List β} (h : (acc ++ (pre ++ x :: post).map f).Perm t) : ((acc ++ [f x]) ++ (pre ++ post).map f).Perm t := by
  refine List.Perm.trans ?_ h
  rw [List.append_assoc]
  refine List.Perm.append_left acc ?_
  rw [List.map_append, List.map_append, List.map_cons]
  exact (List.perm_middle (a := f x) (l₁ := pre.map f) (l₂ := post.map f)).symm
end Go.Proofs.Ytbeoihjfjkbfhaa

namespace Go.Proofs.Ytbeoihjfjkbfhaa
set_option linter.unusedVariables false
set_option linter.unusedSimpArgs false
open Go.RowKit
/-- The function f with cap answers due. -/
structure DueF (f : Nat) (cap : Array Value) (due : Int → Bool) (w : World) : Prop where
  ent : ∀ args w, (callFunc f args).run Try.prog w = .ok (.enter f args) w
  run : ∀ z wz, Ext w wz → Calls Try.prog f (#[.int .i64 z] ++ cap) wz fun e w' => e = .returned (.bool (due z)) ∧ Ext wz w'
theorem DueF.ext {f : Nat} {cap : Array Value} {due : Int → Bool} {w w' : World} (h : DueF f cap due w) (x : Ext w w') : DueF f cap due w' := ⟨h.ent, fun z wz hz => h.run z wz (x.trans hz)⟩
theorem due_all (w : World) : DueF 32 #[] (fun _ => true) w := by
  refine ⟨enters_of Try.func32 (by kernel_rfl) rfl, fun z wz hz => ?_⟩
  change Calls Try.prog 32 #[.int .i64 z] wz _
  go_enter Try.func32, Try.ntmps32
  go_wp2
  go_ret
  exact ⟨rfl, Ext.refl _⟩
theorem due_before (c : Nat) (now : Int) (w : World) (hc : w.cell? ⟨c, 0, none⟩ = some (.int .i64 now)) : DueF 29 #[.pointer (some ⟨c, 0, none⟩)] (fun z => decide (z < now)) w := by
  refine ⟨enters_of Try.func29 (by kernel_rfl) rfl, fun z wz hz => ?_⟩
  change Calls Try.prog 29 #[.int .i64 z, .pointer (some ⟨c, 0, none⟩)] wz _
  have c0 := (hz.cells.1 _ _ (World.block_lt_of_cell? w _ hc)).trans hc
  clear hc hz
  go_enter Try.func29, Try.ntmps29
  go_wp2
  go_ret
  exact ⟨rfl, Ext.refl _⟩
theorem give1_any {f : Nat} {cap : Array Value} {due : Int → Bool} {w : World} (h : DueF f cap due w) (bx : Nat) (hb : w.cell? ⟨bx, 0, none⟩ = some (.func (.func f) #[] cap)) (q : Qn) (z : Int) (wz : World) (hz : Ext w wz) :
    Calls Try.prog 35 #[.agg #[.int .i64 q.who, .string q.text], .int .i64 z, .pointer (some ⟨bx, 0, none⟩)] wz fun e w' => e = .returned (.bool (due z)) ∧ Ext wz w' := by
  have hbl := World.block_lt_of_cell? w _ hb
  have hx1 := Ext.alloc (Ext.refl wz) (.cells #[.int .i64 q.who, .string q.text] 66)
  have c0 := ((hz.trans hx1).cells.1 _ _ hbl).trans hb
  have hR := h.run z _ (hz.trans hx1)
  have hE := h.ent
  clear hb h hz
  go_enter Try.func35, Try.ntmps35
  go_wp2_with (with_reducible refine hR.mono ?_; rintro e' w1 ⟨rfl, hx2⟩)
  go_ret
  exact ⟨rfl, hx1.trans hx2⟩
end Go.Proofs.Ytbeoihjfjkbfhaa

namespace Go.Proofs.Ytbeoihjfjkbfhaa
set_option linter.unusedVariables false
set_option linter.unusedSimpArgs false
open Go.RowKit
def dueV (due : Int → Bool) (p : Qn × Value) : Bool := match p.2 with
  | .int _ z => due z
  | _ => false
theorem mapL_due (due : Int → Bool) (l : List (Qn × Int)) : ((mapL l).filter (dueV due)).map (·.1) = (l.filter fun p => due p.2).map (·.1) := by
  unfold mapL
  rw [List.filter_map, List.map_map]
  rfl
theorem tk_step {due : Int → Bool} {pre post : List (Qn × Value)} {x : Qn} {v : Value} {out t : List Qn} (h : (out ++ ((pre ++ (x, v) :: post).filter (dueV due)).map (·.1)).Perm t) :
    ((if dueV due (x, v) = true then out ++ [x] else out) ++ ((pre ++ post).filter (dueV due)).map (·.1)).Perm t := by
  rw [List.filter_append, List.filter_cons] at h
  by_cases hd : dueV due (x, v) = true
  · rw [if_pos hd] at h ⊢
    have := perm_mid (fun p : Qn × Value => p.1) _ _ _ _ h
    rw [List.filter_append]
    exact this
  · rw [if_neg hd] at h ⊢
    rw [List.filter_append]
    exact h
theorem fst_inj {α β : Type} : ∀ {l : List (α × β)}, (l.map (·.1)).Nodup → ∀ {p q : α × β}, p ∈ l → q ∈ l → p.1 = q.1 → p = q
  | [], _, p, q, hp, _, _ => by cases hp
  | x :: l, hn, p, q, hp, hq, he => by
    simp only [List.map_cons, List.nodup_cons] at hn
    rcases List.mem_cons.1 hp with hp1 | hp2
    · rcases List.mem_cons.1 hq with hq1 | hq2
      · rw [hp1, hq1]
      · exact absurd (List.mem_map.2 ⟨q, hq2, by rw [← he, hp1]⟩) hn.1
    · rcases List.mem_cons.1 hq with hq1 | hq2
      · exact absurd (List.mem_map.2 ⟨p, hp2, by rw [he, hq1]⟩) hn.1
      · exact fst_inj hn.2 hp2 hq2 he
theorem append_q {ops : Array Oper} {rest : List Oper} {o : Oper} {a : Act} {Q : Exit → Act → World → Prop} {w : World} (hgd : o.guard = none) (s x : Operand)
    (ho : o.op = .call { callee := .builtin .append, args := #[s, x], argTypes := #[71, 71] }) (B : Nat) (v : Value) (zs : List Qn) (hs : a.eval s = v) (hF : w.ownsRow B 66 2 v zs.length (zs.flatMap Qn.cs))
    (p : Nat) (i : Qn) (hx : a.eval x = .slice (some ⟨p, 0, none⟩) 1 1) (hp : w.heap[p]? = some (.cells #[.int .i64 i.who, .string i.text] 66)) (hn : zs.length < 1000000) (hB : B ≤ w.heap.size)
    (h : ∀ g cap w', w'.ownsRow B 66 2 (.slice (some ⟨g, 0, none⟩) (zs.length + 1) cap) (zs ++ [i]).length ((zs ++ [i]).flatMap Qn.cs) → Below B w w' → wpList Try.prog ops Q rest (a.put o.dst (.slice (some ⟨g, 0, none⟩) (zs.length + 1) cap)) w') : wpList Try.prog ops Q (o :: rest) a w :=
  append_one (cs := Qn.cs) (z := .agg #[.int .i64 0, .string ⟨#[]⟩]) (fun _ => ⟨rfl, by simp [Qn.cs, Value.oneCell']⟩) 71 66 24 Try.underlying71 (by kernel_rfl) (by rfl) (by decide) (by decide) hgd s x ho B v zs hs hF p i hx hp hn hB h
set_option maxRecDepth 100000 in
set_option maxHeartbeats 4000000 in
theorem take_any (b bx f : Nat) (cap : Array Value) (due : Int → Bool) (m : List (Qn × Int)) (w : World) (hm : MP encQ OkQ w b (mapL m)) (hf : DueF f cap due w) (hbx : w.cell? ⟨bx, 0, none⟩ = some (.func (.func f) #[] cap)) (hlen : m.length ≤ 1000) :
    Calls Try.prog 34 #[.map (some b), .func (.func 35) #[] #[.pointer (some ⟨bx, 0, none⟩)]] w fun e w' => ∃ v out, e = .returned v ∧ SR Qn.cs 2 w' v out ∧ out.Perm ((m.filter (fun p => due p.2)).map (·.1)) ∧ MP encQ OkQ w' b (mapL (m.filter (fun p => !due p.2))) ∧ w.grownBy w' (some b) := by
  have HF := Lib.hid hf; have HBX := Lib.hid hbx; have HM0 := Lib.hid hm
  have HL := Lib.hid hlen
  have hE : ∀ args w, (callFunc 35 args).run Try.prog w = .ok (.enter 35 args) w := enters_of Try.func35 (by kernel_rfl) rfl
  clear hf hbx hlen
  go_enter Try.func34, Try.ntmps34
  go_upto_region 3 with (refine wpList_range rfl _ 54 rfl 66 3 under54 b (mapL m) (by rfl) hm ?_; intro w1 hrg hx1 hs1)
  go_frame
  clear hm
  obtain ⟨r, hr⟩ : ∃ r, r = w.heap.size := ⟨_, rfl⟩
  rw [← hr] at hrg ⊢
  have HR := Lib.hid hr; have HX1 := Lib.hid hx1; have HS1 := Lib.hid hs1; have HG1 := Lib.hid hrg
  clear hr hx1 hs1 hrg
  have HST : Hid ((([] : List Qn) ++ ((mapL m).filter (dueV due)).map (fun p : Qn × Value => p.1)).Perm ((m.filter (fun p : Qn × Int => due p.2)).map (fun p : Qn × Int => p.1))) := Lib.hid (by rw [List.nil_append, mapL_due])
  go_loopw [5] (fun o wr => ∃ (out : List Qn) (left : List (Qn × Value)), RG encQ OkQ wr b r (mapL m) left ∧ wr.ownsRow w1.heap.size 66 2 o out.length (out.flatMap Qn.cs) ∧ Hid ((out ++ (left.filter (dueV due)).map (·.1)).Perm ((m.filter (fun p => due p.2)).map (·.1))) ∧ Hid (out.length + left.length ≤ m.length) ∧ Ext w wr) (fun _ wr => wr.rangeLeft b r)
  case atStart => exact ⟨[], mapL m, HG1.out, World.ownsRow_nil _ _ _ _, HST, Lib.hid (by simp [mapL_len]), HX1.out⟩
  case round =>
    obtain ⟨out, left, hrgr, hrow, HI, HN, hx⟩ := hrel
    go_upto_region 4 with (refine wpList_next rfl _ rfl b r (mapL m) left (by rfl) hrgr ?_ ?_)
    · intro hl
      subst hl
      have hp0 := HI.out
      simp only [List.filter_nil, List.map_nil, List.append_nil] at hp0
      have hon : out.length ≤ 1000000 := by have h8 := HN.out; have h9 := HL.out; rw [List.length_nil] at h8; omega
      have hsr := SR.of_row (cs := Qn.cs) (fun _ => rfl) hrow hon
      have hM1 := hrgr.1
      have HP0 := Lib.hid hp0; have HXW := Lib.hid hx
      have hok : ∀ q ∈ out, OkQ q := fun q hq => by
        obtain ⟨p, hp, rfl⟩ := List.mem_map.1 (hp0.mem_iff.1 hq)
        exact HM0.out.gd (p.1, .int .i64 p.2) (List.mem_map.2 ⟨p, (List.mem_filter.1 hp).1, rfl⟩)
      have HOK := Lib.hid hok
      have hstart : MP encQ OkQ wr b (mapL (m.filter fun p => decide (p.1 ∉ out.take 0))) := by
        rw [List.filter_eq_self.2 (by simp)]
        exact hM1
      have HSTA := Lib.hid hstart
      clear hrgr hrow hp0 hx hok hM1 hstart HI HN HG1
      obtain ⟨base, cp, rfl⟩ := hsr.form
      go_wp2_with (fail)
      go_loopw [27] (fun k wq => ∃ i : Nat, k = .int .i64 i ∧ i ≤ out.length ∧ Hid (MP encQ OkQ wq b (mapL (m.filter fun p => decide (p.1 ∉ out.take i)))) ∧ SR Qn.cs 2 wq (.slice base out.length cp) out ∧ Hid (wr.grownBy wq (some b))) (fun k _ => out.length - (iof k).toNat)
      case atStart => exact ⟨0, rfl, Nat.zero_le _, HSTA, hsr, Lib.hid ⟨rfl, rfl, rfl, Nat.le_refl _, fun _ _ _ => rfl⟩⟩
      case round =>
        rename_i wr0
        obtain ⟨i, rfl, hi, HMI, hsi, HGI⟩ := hrel
        by_cases hil : i < out.length
        · obtain ⟨b2, rfl, hbl, c0, c1⟩ := qn_at hsi i hil
          have hq := HOK.out out[i] (List.getElem_mem _)
          have hf2 : Hid ((mapL (m.filter fun p => decide (p.1 ∉ out.take i))).filter (fun p => decide (p.1 ≠ out[i])) = mapL (m.filter fun p => decide (p.1 ∉ out.take (i + 1)))) := Lib.hid (by
            unfold mapL
            rw [List.filter_map, List.filter_filter]
            congr 1
            apply List.filter_congr
            intro p _
            rw [List.take_succ_eq_append_getElem hil]
            simp only [Function.comp, List.mem_append, List.mem_singleton, not_or, Bool.decide_and, ne_eq]
            exact Bool.and_comm _ _)
          have hbb : b2 ≠ b := by
            rintro rfl
            obtain ⟨-, -, es, ck, hb, -⟩ := HMI.out
            simp [World.cell?, hb] at c0
          have HBB := Lib.hid hbb
          clear hbb
          generalize out[i] = q at *
          obtain ⟨qw, qt⟩ := q
          simp only at c0 c1
          go_upto_region 10 with (fail)
          have hxa : Ext wr (wr.alloc (.cells #[.int .i64 qw, .string qt] 66)) := Ext.alloc (Ext.refl _) _
          have HMA := Lib.hid (HMI.out.ext hxa)
          have hsa := hsi.ext hxa
          have hp6 : (wr.alloc (.cells #[.int .i64 qw, .string qt] 66)).heap[wr.heap.size]? = some (.cells #[.int .i64 qw, .string qt] 66) := alloc_at wr _
          obtain ⟨p6, hpe⟩ : ∃ p6, p6 = wr.heap.size := ⟨_, rfl⟩
          rw [← hpe] at hp6 ⊢
          generalize wr.alloc (.cells #[.int .i64 qw, .string qt] 66) = Wa at *
          have a0 : Wa.cell? ⟨p6, 0, none⟩ = some (.int .i64 qw) := cell_of_row _ _ 0 _ _ _ hp6
          have a1 : Wa.cell? ⟨p6, 1, none⟩ = some (.string qt) := cell_of_row _ _ 1 _ _ _ hp6
          have hpl := Rg.lt_of_heap hp6
          have HXA := Lib.hid hxa; have HSA := Lib.hid hsa
          clear hp6 hsi hsa c0 c1 hxa hpe
          go_wp2_with (refine wpList_delete _ rfl (.tmp 31) (.tmp 32) 54 66 rfl 66 3 keQ under54 b _ (by rfl) HMA.out ⟨qw, qt⟩ (by rfl) hq ?_; intro w4 hm4 hg4)
          rw [hf2.out] at hm4
          have hs4 : SR Qn.cs 2 w4 (.slice (some ⟨b2, 0, none⟩) out.length cp) out := by
            obtain ⟨base', cap', e1, e2, e3⟩ := HSA.out
            injection e1 with e4 e5 e6
            subst e4 e6
            refine ⟨_, _, rfl, e2, e3.imp id fun ⟨b', hb', hc'⟩ => ⟨b', hb', fun k hk j u hu => ?_⟩⟩
            injection hb' with hb'
            injection hb' with hb'
            subst hb'
            have h1 := hc' k hk j u hu
            rw [World.cell?_of_block (a := ⟨b2, k * 2 + j, none⟩) (hg4.block b2 (World.block_lt_of_cell? _ _ h1) (fun e => HBB.out (by injection e)))]
            exact h1
          exact ⟨⟨i + 1, by simp, by omega, Lib.hid hm4, hs4, Lib.hid (HGI.out.trans ((⟨HXA.out.os, HXA.out.tape, HXA.out.output, HXA.out.size, fun k hk _ => HXA.out.block k hk⟩ : wr.grownBy Wa (some b)).trans hg4))⟩, by simp [iof]; omega⟩
        · obtain rfl : i = out.length := by omega
          have hfin : (m.filter fun p => decide (p.1 ∉ out.take out.length)) = m.filter fun p => !due p.2 := by
            rw [List.take_length]
            apply List.filter_congr
            intro p hp
            have hnd := HM0.out.nodup
            rw [mapL_keys] at hnd
            have h1 : p.1 ∈ out ↔ due p.2 = true := by
              rw [HP0.out.mem_iff]
              constructor
              · intro h
                obtain ⟨p', hp', he⟩ := List.mem_map.1 h
                obtain ⟨h3, h4⟩ := List.mem_filter.1 hp'
                have := fst_inj hnd h3 hp he
                rw [← this]
                exact h4
              · intro h
                exact List.mem_map.2 ⟨p, List.mem_filter.2 ⟨hp, h⟩, rfl⟩
            cases hd : due p.2
            · simp [h1, hd]
            · simp [h1, hd]
          have hMf := HMI.out
          rw [hfin] at hMf
          have HMF := Lib.hid hMf
          clear hMf hfin HMI
          go_wp2_with (fail)
          go_ret
          have hgw : w.grownBy wr (some b) := (⟨HXW.out.os, HXW.out.tape, HXW.out.output, HXW.out.size, fun k hk _ => HXW.out.block k hk⟩ : w.grownBy _ (some b)).trans HGI.out
          exact ⟨_, out, rfl, hsi, HP0.out, HMF.out, hgw⟩
    · intro pre x v post w2 hl hrg2 hg2 hs2 hen
      subst hl
      have hvm : ∃ z, v = .int .i64 z := by
        obtain ⟨p, hp, he⟩ := List.mem_map.1 (hrgr.2.1 (x, v) (List.mem_append_right _ List.mem_cons_self))
        simp only [Prod.mk.injEq] at he
        exact ⟨p.2, he.2.symm⟩
      obtain ⟨z, rfl⟩ := hvm
      have hstep : Hid (((if due z = true then out ++ [x] else out) ++ ((pre ++ post).filter (dueV due)).map (fun p : Qn × Value => p.1)).Perm ((m.filter (fun p : Qn × Int => due p.2)).map (fun p : Qn × Int => p.1))) := Lib.hid (tk_step (due := due) HI.out)
      have hn2 : out.length + (pre ++ post).length + 1 ≤ m.length := by
        have := HN.out
        simp only [List.length_append, List.length_cons] at this ⊢
        omega
      have HLE := Lib.hid (hrgr.left_eq)
      have hrow2 := World.ownsRow.kept hrow hg2 (by
        cases ho : u5.ownBlock with
        | none => exact .inl rfl
        | some g => have := (hrow.lt g ho).1; have := HS1.out; have := HR.out; exact .inr (by simp; omega))
      have hx2 : Ext w w2 := Below.trans hx ⟨hg2.os, hg2.tape, hg2.output, hg2.size, fun k hk => hg2.block k (by have := hx.size; omega) (by have := HR.out; simp; omega)⟩
      have hms : w2.rangeLeft b r < wr.rangeLeft b r := by
        rw [HLE.out, hrg2.left_eq]
        simp
      have HMS := Lib.hid hms; have HN2 := Lib.hid hn2
      clear hrgr hx hrow HI hms hn2
      have hsz2 : w1.heap.size ≤ w2.heap.size := by have := hrg2.lt; have := HS1.out; have := HR.out; omega
      have HSZ := Lib.hid hsz2
      have hG1 := Lib.hid (fun wz (hz : Ext w wz) => give1_any HF.out bx HBX.out x z wz hz)
      obtain ⟨xw, xt⟩ := x
      simp only at hG1
      unfold encQ at hen
      simp only at hen
      clear hs2
      go_upto_region 5 with (fail)
      have hxa : Ext w2 (w2.alloc (.cells #[.int .i64 xw, .string xt] 66)) := Ext.alloc (Ext.refl _) _
      have hp6 : (w2.alloc (.cells #[.int .i64 xw, .string xt] 66)).heap[w2.heap.size]? = some (.cells #[.int .i64 xw, .string xt] 66) := alloc_at w2 _
      obtain ⟨p6, hpe⟩ : ∃ p6, p6 = w2.heap.size := ⟨_, rfl⟩
      rw [← hpe] at hp6 ⊢
      generalize w2.alloc (.cells #[.int .i64 xw, .string xt] 66) = Wa at *
      have a0 : Wa.cell? ⟨p6, 0, none⟩ = some (.int .i64 xw) := cell_of_row _ _ 0 _ _ _ hp6
      have a1 : Wa.cell? ⟨p6, 1, none⟩ = some (.string xt) := cell_of_row _ _ 1 _ _ _ hp6
      have hpl := Rg.lt_of_heap hp6
      have HP6 := Lib.hid hp6; have HXA := Lib.hid hxa; have HX2 := Lib.hid hx2; have HG2 := Lib.hid hrg2; have HRW := Lib.hid hrow2; have HHM := Lib.hid hg2
      have hGz := hG1.out Wa (hx2.trans hxa)
      clear hp6 hxa hx2 hrg2 hrow2 hpe hen hg2 hsz2
      cases hd : due z with
      | true =>
        rw [hd] at hGz
        rw [hd, if_pos rfl] at hstep
        clear hd
        go_upto_region 6 with (go_at_call 35; (with_reducible refine hGz.mono ?_); rintro e w3 ⟨rfl, hx3⟩)
        have b0 := (hx3.cells.1 _ _ hpl).trans a0
        have b1 := (hx3.cells.1 _ _ hpl).trans a1
        have hpl3 : p6 < w3.heap.size := Nat.lt_of_lt_of_le hpl hx3.size
        have HX3 := Lib.hid hx3
        clear hx3 a0 a1 hpl hGz
        go_wp2_with (refine append_q rfl (.tmp 21) (.tmp 23) rfl w1.heap.size _ out rfl (row_ext HRW.out (HXA.out.trans (HX3.out.trans (Ext.alloc (Ext.refl _) _)))) w3.heap.size ⟨xw, xt⟩ (by rfl) (alloc_at w3 _) (by have := HN2.out; have := HL.out; omega) (by have := HSZ.out; have := HXA.out.size; have := HX3.out.size; simp; omega) ?_; intro g cap' w4 hr4 hb4)
        have hx4 : Ext w2 (w3.alloc (.cells #[.int .i64 xw, .string xt] 66)) := HXA.out.trans (HX3.out.trans (Ext.alloc (Ext.refl _) _))
        have hrg4 : RG encQ OkQ w4 b r (mapL m) (pre ++ post) := (HG2.out.ext hx4).of_blocks (hb4.block _ (by have := HG1.out.1.lt; omega)) (hb4.block _ (by have := HG1.out.lt; omega))
        refine ⟨⟨out ++ [⟨xw, xt⟩], pre ++ post, hrg4, by simpa using hr4, hstep, Lib.hid (by have := HN2.out; simp at this ⊢; omega), Below.trans (HX2.out.trans hx4) ⟨hb4.os, hb4.tape, hb4.output, hb4.size, fun k hk => hb4.block k (by have := HS1.out; omega)⟩⟩, ?_⟩
        rw [hrg4.left_eq, ← HG2.out.left_eq]
        exact HMS.out
      | false =>
        rw [hd] at hGz
        rw [hd, if_neg (by simp)] at hstep
        clear hd
        go_wp2_with (go_at_call 35; (with_reducible refine hGz.mono ?_); rintro e w3 ⟨rfl, hx3⟩)
        have hrg3 := HG2.out.ext (HXA.out.trans hx3)
        refine ⟨⟨out, pre ++ post, hrg3, row_ext HRW.out (HXA.out.trans hx3), hstep, Lib.hid (by have := HN2.out; simp at this ⊢; omega), HX2.out.trans (HXA.out.trans hx3)⟩, ?_⟩
        rw [hrg3.left_eq, ← HG2.out.left_eq]
        exact HMS.out
end Go.Proofs.Ytbeoihjfjkbfhaa

namespace Go.Proofs.Ytbeoihjfjkbfhaa
set_option linter.unusedVariables false
set_option linter.unusedSimpArgs false
open Go.RowKit
/-- A list without what comes again. -/
def dis : List Int → List Int
  | [] => []
  | x :: l => if x ∈ l then dis l else x :: dis l
theorem mem_dis {x : Int} : ∀ {l : List Int}, x ∈ dis l ↔ x ∈ l
  | [] => Iff.rfl
  | y :: l => by
    unfold dis
    by_cases h : y ∈ l
    · rw [if_pos h, mem_dis]
      constructor
      · exact fun h => List.mem_cons_of_mem _ h
      · intro h2
        rcases List.mem_cons.1 h2 with rfl | h2
        · exact h
        · exact h2
    · rw [if_neg h, List.mem_cons, List.mem_cons, mem_dis]
theorem nodup_dis : ∀ l : List Int, (dis l).Nodup
  | [] => List.Pairwise.nil
  | y :: l => by
    unfold dis
    by_cases h : y ∈ l
    · rw [if_pos h]; exact nodup_dis l
    · rw [if_neg h]; exact List.nodup_cons.2 ⟨fun h2 => h (mem_dis.1 h2), nodup_dis l⟩
theorem nodup_le {α : Type} [DecidableEq α] : ∀ {l m : List α}, l.Nodup → (∀ x ∈ l, x ∈ m) → l.length ≤ m.length
  | [], _, _, _ => Nat.zero_le _
  | x :: l, m, hn, hs => by
    have hx := hs x List.mem_cons_self
    rw [List.nodup_cons] at hn
    have := nodup_le (m := m.erase x) hn.2 (fun y hy => (List.mem_erase_of_ne (fun e => hn.1 (by rw [← e]; exact hy))).2 (hs y (List.mem_cons_of_mem _ hy)))
    rw [List.length_erase_of_mem hx] at this
    have := List.length_pos_of_mem hx
    simp only [List.length_cons]
    omega
theorem len_dis {k l : List Int} (hk : k.Nodup) (h : ∀ x, x ∈ k ↔ x ∈ l) : k.length = (dis l).length :=
  Nat.le_antisymm (nodup_le hk fun x hx => mem_dis.2 ((h x).1 hx)) (nodup_le (nodup_dis l) fun x hx => (h x).2 (mem_dis.1 hx))
def dueL (r : Rl) (due : Int → Bool) : List (Qn × Int) := r.l.filter fun p => due p.2
def whos (l : List (Qn × Int)) : List Int := l.map fun p => p.1.who
def texts (l : List (Qn × Int)) : List ByteArray := l.map fun p => p.1.text
open Classical in
/-- The batch that is given out, if there is one, and the relay then. -/
noncomputable def giveF (r : Rl) (due : Int → Bool) : Option (List ByteArray) × Rl :=
  if ((dis (whos (dueL r due))).length : Int) < max r.least 1 then (none, r) else (some (srtT (texts (dueL r due))), { r with l := r.l.filter fun p => !due p.2 })
/-- A batch in memory, all of it from n on. -/
def BatR (n : Nat) (w : World) (v : Value) : Option (List ByteArray) → Prop
  | none => v = .slice none 0 0
  | some ts => ∃ g u, v = .slice (some ⟨g, 0, none⟩) 1 1 ∧ n ≤ g ∧ w.heap[g]? = some (.cells #[u] 38) ∧ w.ownsRow n 9 1 u ts.length (ts.flatMap celS)
theorem BatR.ext {n : Nat} {w w' : World} {v : Value} {o : Option (List ByteArray)} (h : BatR n w v o) (x : Ext w w') : BatR n w' v o := by
  cases o with
  | none => exact h
  | some ts =>
    obtain ⟨g, u, h1, h2, h3, h4⟩ := h
    exact ⟨g, u, h1, h2, (x.block _ (Rg.lt_of_heap h3)).trans h3, row_ext h4 x⟩
/-- The set of askers while the loop runs. -/
theorem who_step {due : Int → Bool} {pre post : List (Qn × Value)} {x : Qn} {v : Value} {ks ws : List Int} (h : ∀ k, (k ∈ ks ∨ k ∈ ((pre ++ (x, v) :: post).filter (dueV due)).map (fun p => p.1.who)) ↔ k ∈ ws) :
    ∀ k, ((if dueV due (x, v) = true then k = x.who ∨ k ∈ ks else k ∈ ks) ∨ k ∈ ((pre ++ post).filter (dueV due)).map (fun p => p.1.who)) ↔ k ∈ ws := by
  intro k
  rw [← h k]
  simp only [List.filter_append, List.filter_cons, List.map_append, List.mem_append]
  by_cases hd : dueV due (x, v) = true
  · simp only [hd, if_true, List.map_cons, List.mem_cons]
    constructor
    · rintro ((rfl | h) | h | h)
      · exact .inr (.inr (.inl rfl))
      · exact .inl h
      · exact .inr (.inl h)
      · exact .inr (.inr (.inr h))
    · rintro (h | h | rfl | h)
      · exact .inl (.inr h)
      · exact .inr (.inl h)
      · exact .inl (.inl rfl)
      · exact .inr (.inr h)
  · simp only [hd, if_false, Bool.false_eq_true]
theorem mapL_whos (due : Int → Bool) (l : List (Qn × Int)) : ((mapL l).filter (dueV due)).map (fun p => p.1.who) = whos (l.filter fun p => due p.2) := by
  unfold mapL whos
  rw [List.filter_map, List.map_map]
  rfl
end Go.Proofs.Ytbeoihjfjkbfhaa

namespace Go.Proofs.Ytbeoihjfjkbfhaa
set_option linter.unusedVariables false
set_option linter.unusedSimpArgs false
open Go.RowKit
theorem MQ.mpo {B : Nat} {w : World} {mb : Option Nat} {l : List (Qn × Int)} (h : MQ B w mb l) : MPO encQ OkQ w mb (mapL l) := by
  cases mb with
  | none => rw [show l = [] from h]; rfl
  | some b => exact h.2
theorem put_mem {l : List (Int × Value)} (x : Int) (v : Value) (k : Int) : k ∈ (putL l x v).map (·.1) ↔ k = x ∨ k ∈ l.map (·.1) := by
  rw [putL_keys]
  by_cases h : x ∈ l.map (·.1)
  · rw [if_pos h]
    exact ⟨.inr, fun e => e.elim (fun e => e ▸ h) id⟩
  · rw [if_neg h, List.mem_append, List.mem_singleton]
    exact Or.comm
theorem row_form {B E sz n : Nat} {w : World} {v : Value} {xs : List Value} (h : w.ownsRow B E sz v n xs) : ∃ a m c, v = .slice a m c := by
  rcases h.2 with ⟨rfl, -⟩ | ⟨g, cap, cur, rfl, -⟩
  · exact ⟨_, _, _, rfl⟩
  · exact ⟨_, _, _, rfl⟩
theorem under69 : Try.prog.underlying 69 = some (.map 3 4) := Try.underlying69
set_option maxRecDepth 100000 in
set_option maxHeartbeats 8000000 in
theorem give_any {B : Nat} (p : Nat) (mb : Option Nat) (r : Rl) (f : Nat) (cap : Array Value) (due : Int → Bool) (w : World) (h : RW B w p mb r) (hf : DueF f cap due w) :
    Calls Try.prog 28 #[.pointer (some ⟨p, 0, none⟩), .func (.func f) #[] cap] w fun e w' => ∃ v, e = .returned v ∧ BatR w.heap.size w' v (giveF r due).1 ∧ RW B w' p mb (giveF r due).2 ∧ KW p mb w w' := by
  have hmm := @run_makeMap Try.prog
  have HH := Lib.hid h; have HF := Lib.hid hf
  have hE := hf.ent
  have c2 := (Rl.cells_at h.row).2.2.1
  have hpl := h.lt
  obtain ⟨bx, hbx⟩ : ∃ bx, bx = w.heap.size := ⟨_, rfl⟩
  clear h hf
  go_enter Try.func28, Try.ntmps28
  go_upto_region 2 with (fail)
  have hX0 : Ext w ((w.alloc (.cells #[.func (.func f) #[] cap] 61)).alloc (.map #[] 0)) := Ext.alloc (Ext.alloc (Ext.refl _) _) _
  have hS0 : ((w.alloc (.cells #[.func (.func f) #[] cap] 61)).alloc (.map #[] 0)).heap.size = w.heap.size + 2 := by simp
  have hBx : ((w.alloc (.cells #[.func (.func f) #[] cap] 61)).alloc (.map #[] 0)).heap[w.heap.size]? = some (.cells #[.func (.func f) #[] cap] 61) := (two_blocks w _ _).1
  have hMa : MP encI OkI ((w.alloc (.cells #[.func (.func f) #[] cap] 61)).alloc (.map #[] 0)) (w.alloc (.cells #[.func (.func f) #[] cap] 61)).heap.size [] := MP.made _
  rw [show (w.alloc (.cells #[.func (.func f) #[] cap] 61)).heap.size = w.heap.size + 1 by simp] at hMa
  obtain ⟨ba, hba⟩ : ∃ ba, ba = w.heap.size + 1 := ⟨_, rfl⟩
  rw [← hba] at hMa ⊢
  rw [← hbx] at hBx ⊢
  generalize (w.alloc (.cells #[.func (.func f) #[] cap] 61)).alloc (.map #[] 0) = W0 at *
  have HBX := Lib.hid hbx; have HBA := Lib.hid hba
  have hMO := (HH.out.map.ext hX0).mpo
  have c2' : W0.cell? ⟨p, 2, none⟩ = some (.map mb) := (hX0.cells.1 _ _ hpl).trans c2
  have hpl0 : p < W0.heap.size := Nat.lt_of_lt_of_le hpl hX0.size
  have HX0 := Lib.hid hX0; have HS0 := Lib.hid hS0; have HB0 := Lib.hid hBx; have HMA := Lib.hid hMa
  clear hbx hba hX0 hS0 hBx hMa c2 hmm
  go_upto_region 3 with (refine wpList_rangeO rfl _ 54 rfl 66 3 under54 mb (mapL r.l) (by rfl) hMO ?_; intro w1 hrg hx1 hs1)
  go_frame
  obtain ⟨rr, hrr⟩ : ∃ rr, rr = W0.heap.size := ⟨_, rfl⟩
  rw [← hrr] at hrg ⊢
  have HR := Lib.hid hrr; have HX1 := Lib.hid hx1
  have HG1 := Lib.hid hrg
  have HST : Hid (∀ k, (k ∈ (([] : List (Int × Value)).map (fun x => x.1)) ∨ k ∈ ((mapL r.l).filter (dueV due)).map (fun p => p.1.who)) ↔ k ∈ whos (dueL r due)) := Lib.hid (by
    intro k
    rw [mapL_whos]
    simp [dueL])
  have HBX1 : Hid (w1.heap[bx]? = some (.cells #[.func (.func f) #[] cap] 61)) := Lib.hid ((hx1.block _ (Rg.lt_of_heap HB0.out)).trans HB0.out)
  have HMA1 := Lib.hid (HMA.out.ext hx1)
  have HEX1 : Hid (Ext w w1) := Lib.hid (HX0.out.trans hx1)
  clear hrr hx1 hs1 hrg hMO c2' hpl0
  go_loopw [7] (fun _ wr => ∃ (left : List (Qn × Value)) (am : List (Int × Value)), RGO encQ OkQ wr mb rr (mapL r.l) left ∧ Hid (MP encI OkI wr ba am) ∧ Hid (∀ k, (k ∈ am.map (fun x => x.1) ∨ k ∈ (left.filter (dueV due)).map (fun p => p.1.who)) ↔ k ∈ whos (dueL r due)) ∧ Hid (wr.heap[bx]? = some (.cells #[.func (.func f) #[] cap] 61)) ∧ Hid (Ext w wr)) (fun _ wr => leftO wr mb rr)
  case atStart => exact ⟨mapL r.l, [], HG1.out, HMA1, HST, HBX1, HEX1⟩
  case round =>
    obtain ⟨left, am, hrgr, HMI, HKI, HBI, HXI⟩ := hrel
    go_upto_region 4 with (refine wpList_nextO rfl _ rfl mb rr (mapL r.l) left (by rfl) hrgr ?_ ?_)
    · intro hl
      subst hl
      have hkeys : ∀ k, k ∈ am.map (fun x => x.1) ↔ k ∈ whos (dueL r due) := fun k => by
        have := HKI.out k
        simpa using this
      have hlen := len_dis HMI.out.nodup hkeys
      rw [List.length_map] at hlen
      have hrowp : wr.heap[p]? = some (.cells (r.cells mb) 56) := (HXI.out.block _ hpl).trans HH.out.row
      have d0 := (Rl.cells_at hrowp).1
      have d2 := (Rl.cells_at hrowp).2.2.1
      have hplw : p < wr.heap.size := Rg.lt_of_heap hrowp
      obtain ⟨n, hn⟩ : ∃ n, n = (dis (whos (dueL r due))).length := ⟨_, rfl⟩
      rw [← hn] at hlen
      have HN := Lib.hid hn
      have HLN : Hid (∀ wz, Ext wr wz → (Builtin.len_ #[69] 3 #[.map (some ba)]).run Try.prog wz = .ok (.int .i64 (n : Nat)) wz) := Lib.hid (fun wz hz => by
        have := (HMI.out.ext hz).len under69 3
        rw [hlen] at this
        exact this)
      clear hkeys hlen hn hrowp hrgr HKI HMI
      generalize hle : r.least = least at *
      have HLE := Lib.hid hle
      clear hle
      go_upto_region 7 with (fail)
      refine Rr.wp_region [(0, .y), (1, .y), (2, .y), (3, .y), (4, .y), (5, .y), (6, .y)] (fun _ => (.cells #[] 29, Rg.ptr)) (by kernel_rfl) (by kernel_rfl) ?_
      (refine Rr.wr_y (by simp only [List.getElem?_toArray, List.getElem?_cons_succ, List.getElem?_cons_zero]; rfl) (by rfl) ?_
       apply Exists.intro
       refine ⟨fun wz hw _ => ?_, ?_⟩
       · have hcz := hw.cells.1
         go_simp
         (with_reducible exact Rg.up_value)
       simp only [Act.put, List.setIfInBounds_toArray, List.set_cons_zero, List.set_cons_succ])
      (refine Rr.wr_y (by simp only [List.getElem?_toArray, List.getElem?_cons_succ, List.getElem?_cons_zero]; rfl) (by rfl) ?_
       apply Exists.intro
       refine ⟨fun wz hw _ => ?_, ?_⟩
       · have hcz := hw.cells.1
         have hl := HLN.out wz hw
         go_simp
         (with_reducible exact Rg.up_value)
       simp only [Act.put, List.setIfInBounds_toArray, List.set_cons_zero, List.set_cons_succ])
      (refine Rr.wr_y (by simp only [List.getElem?_toArray, List.getElem?_cons_succ, List.getElem?_cons_zero]; rfl) (by rfl) ?_
       apply Exists.intro
       refine ⟨fun wz hw _ => ?_, ?_⟩
       · have hcz := hw.cells.1
         go_simp
         (with_reducible exact Rg.up_value)
       simp only [Act.put, List.setIfInBounds_toArray, List.set_cons_zero, List.set_cons_succ])
      (refine Rr.wr_y (by simp only [List.getElem?_toArray, List.getElem?_cons_succ, List.getElem?_cons_zero]; rfl) (by rfl) ?_
       apply Exists.intro
       refine ⟨fun wz hw _ => ?_, ?_⟩
       · have hcz := hw.cells.1
         go_simp
         (with_reducible exact Rg.up_value)
       simp only [Act.put, List.setIfInBounds_toArray, List.set_cons_zero, List.set_cons_succ])
      (refine Rr.wr_y (by simp only [List.getElem?_toArray, List.getElem?_cons_succ, List.getElem?_cons_zero]; rfl) (by rfl) ?_
       apply Exists.intro
       refine ⟨fun wz hw _ => ?_, ?_⟩
       · have hcz := hw.cells.1
         go_simp
         (with_reducible exact Rg.up_value)
       simp only [Act.put, List.setIfInBounds_toArray, List.set_cons_zero, List.set_cons_succ])
      (refine Rr.wr_y (by simp only [List.getElem?_toArray, List.getElem?_cons_succ, List.getElem?_cons_zero]; rfl) (by rfl) ?_
       apply Exists.intro
       refine ⟨fun wz hw _ => ?_, ?_⟩
       · have hcz := hw.cells.1
         go_simp
         (with_reducible exact Rg.up_value)
       simp only [Act.put, List.setIfInBounds_toArray, List.set_cons_zero, List.set_cons_succ])
      (refine Rr.wr_y (by simp only [List.getElem?_toArray, List.getElem?_cons_succ, List.getElem?_cons_zero]; rfl) (by rfl) ?_
       apply Exists.intro
       refine ⟨fun wz hw _ => ?_, ?_⟩
       · have hcz := hw.cells.1
         go_simp
         (with_reducible exact Rg.up_value)
       simp only [Act.put, List.setIfInBounds_toArray, List.set_cons_zero, List.set_cons_succ])
      refine Rr.wr_nil ?_
      intro wy hy hh
      clear hh
      simp only [List.length_cons, List.length_nil, List.drop_succ_cons, List.drop_zero, Nat.reduceAdd]
      obtain ⟨q, hq⟩ : ∃ q, q = max least 1 := ⟨_, rfl⟩
      rw [← hq]
      have HQ : Hid (q = max r.least 1) := Lib.hid (by rw [hq, HLE.out])
      clear hq
      have d2y := (hy.cells.1 _ _ hplw).trans d2
      have hpy : p < wy.heap.size := Nat.lt_of_lt_of_le hplw hy.size
      have HXY : Hid (Ext w wy) := Lib.hid (HXI.out.trans hy)
      have HBY : Hid (wy.heap[bx]? = some (.cells #[.func (.func f) #[] cap] 61)) := Lib.hid ((hy.block _ (Rg.lt_of_heap HBI.out)).trans HBI.out)
      clear d0 d2 hplw hy HXI HBI HLN
      by_cases hlt : (n : Int) < q
      · have hgv : giveF r due = (none, r) := by
          unfold giveF
          rw [if_pos (by rw [← HN.out, ← HQ.out]; exact hlt)]
        have HV := Lib.hid hgv
        clear hgv
        go_wp2_with (fail)
        go_ret
        exact ⟨_, rfl, by rw [HV.out]; rfl, by rw [HV.out]; exact HH.out.ext HXY.out, KW.of_ext HXY.out⟩
      · have hgv : giveF r due = (some (srtT (texts (dueL r due))), { r with l := r.l.filter fun p => !due p.2 }) := by
          unfold giveF
          rw [if_neg (by rw [← HN.out, ← HQ.out]; exact hlt)]
        have hne : r.l ≠ [] := by
          intro e
          have h1 := HN.out
          have h2 := HQ.out
          rw [show dueL r due = [] by unfold dueL; rw [e]; rfl] at h1
          simp [whos, dis] at h1
          omega
        obtain ⟨b, rfl⟩ : ∃ b, mb = some b := by
          cases mb with
          | none => exact absurd HH.out.map hne
          | some b => exact ⟨b, rfl⟩
        have HV := Lib.hid hgv
        clear hgv hne
        have hT := take_any b bx f cap due r.l wy (MP.ext HH.out.map.2 HXY.out) (HF.out.ext HXY.out) (cell_of_row _ _ 0 _ _ _ HBY.out) HH.out.ok.len
        have HT := Lib.hid hT
        have HSH := Lib.hid (fun v l w hl hs => shuffled_any v l w hl hs)
        clear hT
        have HOQ : Hid (∀ q ∈ (r.l.filter (fun p => due p.2)).map (fun p => p.1), q.text.size ≤ 4000) := Lib.hid (fun q hq => by
          obtain ⟨p, hp, rfl⟩ := List.mem_map.1 hq
          exact (HH.out.map.2.gd (p.1, .int .i64 p.2) (List.mem_map.2 ⟨p, (List.mem_filter.1 hp).1, rfl⟩)).2)
        go_wp2_with (first
          | (go_at_call 34; (with_reducible refine HT.out.mono ?_); rintro e w5 ⟨v, out, rfl, hsr, hperm, hM5, hg5⟩)
          | (go_at_call 33; (with_reducible refine (HSH.out _ out w5 hsr (fun q hq => HOQ.out q (hperm.mem_iff.1 hq))).mono ?_); rintro e w6 ⟨u, rfl, hu6, hx6⟩; obtain ⟨ua, un, uc, rfl⟩ := row_form hu6))
        go_ret
        have hxw5 : w.heap.size ≤ w5.heap.size := Nat.le_trans HXY.out.size hg5.size
        have htx : srtT (out.map (fun x => x.text)) = srtT (texts (dueL r due)) := srtT_of_perm (by
          have := hperm.map (fun q : Qn => q.text)
          rw [List.map_map] at this
          exact this)
        have hol : out.length = (srtT (texts (dueL r due))).length := by
          rw [← htx, srtT_len, List.length_map]
        rw [htx, hol] at hu6
        have hx7 : Ext w6 (w6.alloc (.cells #[.slice ua un uc] 38)) := Ext.alloc (Ext.refl _) _
        refine ⟨_, rfl, ?_, ?_, ?_⟩
        · rw [HV.out]
          refine ⟨w6.heap.size, _, rfl, Nat.le_trans hxw5 hx6.size, alloc_at w6 _, ?_⟩
          have h8 := row_ext hu6 hx7
          refine ⟨h8.1, h8.2.imp id ?_⟩
          rintro ⟨g, cp, cur, e1, e2, e3⟩
          exact ⟨g, cp, cur, e1, Nat.le_trans hxw5 e2, e3⟩
        · rw [HV.out]
          have hbp : b ≠ p := fun e => HH.out.ne (by rw [e])
          have hbl := (HH.out.map.lt b rfl).2
          refine ⟨HH.out.at_, ?_, ⟨HH.out.map.1, hM5.ext (hx6.trans hx7)⟩, ⟨HH.out.ok.least, HH.out.ok.every, HH.out.ok.last, fun x hx => HH.out.ok.per x (List.mem_filter.1 hx).1, Nat.le_trans (List.length_filter_le _ _) HH.out.ok.len⟩⟩
          exact ((hx6.trans hx7).block _ (Nat.lt_of_lt_of_le hpy hg5.size)).trans ((hg5.block p hpy (fun e => hbp (by injection e with e; exact e.symm))).trans ((HXY.out.block _ hpl).trans HH.out.row))
        · exact ((KW.of_ext HXY.out).grown hg5).trans (KW.of_ext (hx6.trans hx7))
    · intro b pre x v post w2 hmb hl hrg2 hg2 hs2 hen hms
      subst hl
      have hvm : ∃ z, v = .int .i64 z := by
        obtain ⟨p, hp, he⟩ := List.mem_map.1 (hrgr.sub (x, v) (List.mem_append_right _ List.mem_cons_self))
        simp only [Prod.mk.injEq] at he
        exact ⟨p.2, he.2.symm⟩
      obtain ⟨z, rfl⟩ := hvm
      have hxg := hrgr.good (x, .int .i64 z) (List.mem_append_right _ List.mem_cons_self)
      have hstep : Hid (∀ k, ((if due z = true then k = x.who ∨ k ∈ am.map (fun x => x.1) else k ∈ am.map (fun x => x.1)) ∨ k ∈ ((pre ++ post).filter (dueV due)).map (fun p => p.1.who)) ↔ k ∈ whos (dueL r due)) := Lib.hid (who_step (due := due) HKI.out)
      have hlr := hrgr.lt
      have hra : ba < rr := by have := HBA.out; have := HS0.out; have := HR.out; omega
      have hrb : bx < rr := by have := HBX.out; have := HS0.out; have := HR.out; omega
      have hrw : w.heap.size < rr := by have := HS0.out; have := HR.out; omega
      have HMS : Hid (∀ wz, RGO encQ OkQ wz mb rr (mapL r.l) (pre ++ post) → leftO wz mb rr < leftO wr mb rr) := Lib.hid (fun wz hz => by
        rw [leftO_eq hz, leftO_eq hrgr]
        simp)
      have HM2 := Lib.hid (HMI.out.kept hg2 (by simp; omega))
      have HB2 : Hid (w2.heap[bx]? = some (.cells #[.func (.func f) #[] cap] 61)) := Lib.hid ((hg2.block _ (Rg.lt_of_heap HBI.out) (by simp; omega)).trans HBI.out)
      have HX2 : Hid (Ext w w2) := Lib.hid (Below.trans HXI.out ⟨hg2.os, hg2.tape, hg2.output, hg2.size, fun k hk => hg2.block k (by have := HXI.out.size; omega) (by simp; omega)⟩)
      have HG2 := Lib.hid hrg2
      obtain ⟨xw, xt⟩ := x
      have HOW := Lib.hid hxg.1
      unfold encQ at hen
      simp only at hen hstep HOW
      clear hrgr hrg2 hg2 hs2 hms HMI HKI HBI HXI hxg hmb
      go_upto_region 5 with (fail)
      have hxa : Ext w2 (w2.alloc (.cells #[.int .i64 xw, .string xt] 66)) := Ext.alloc (Ext.refl _) _
      have hp6 : (w2.alloc (.cells #[.int .i64 xw, .string xt] 66)).heap[w2.heap.size]? = some (.cells #[.int .i64 xw, .string xt] 66) := alloc_at w2 _
      obtain ⟨p6, hpe⟩ : ∃ p6, p6 = w2.heap.size := ⟨_, rfl⟩
      rw [← hpe] at hp6 ⊢
      generalize w2.alloc (.cells #[.int .i64 xw, .string xt] 66) = Wa at *
      have a0 : Wa.cell? ⟨p6, 0, none⟩ = some (.int .i64 xw) := cell_of_row _ _ 0 _ _ _ hp6
      have hpl6 := Rg.lt_of_heap hp6
      have ab : Wa.cell? ⟨bx, 0, none⟩ = some (.func (.func f) #[] cap) := cell_of_row _ _ 0 _ _ _ ((hxa.block _ (Rg.lt_of_heap HB2.out)).trans HB2.out)
      have habl : bx < Wa.heap.size := Nat.lt_of_lt_of_le (Rg.lt_of_heap HB2.out) hxa.size
      have hGz := HF.out.run z Wa (HX2.out.trans hxa)
      have HXA := Lib.hid hxa
      clear hp6 hxa hpe hen
      cases hd : due z with
      | true =>
        rw [hd] at hGz
        rw [hd] at hstep
        simp only [if_true] at hstep
        clear hd
        go_upto_region 6 with (with_reducible refine hGz.mono ?_; rintro e' w3 ⟨rfl, hx3⟩)
        have b0 := (hx3.cells.1 _ _ hpl6).trans a0
        have hpl63 : p6 < w3.heap.size := Nat.lt_of_lt_of_le hpl6 hx3.size
        have HX3 : Hid (Ext w2 w3) := Lib.hid (HXA.out.trans hx3)
        clear hx3 a0 ab hGz habl hpl6
        go_wp2_with (refine wpList_store rfl (.tmp 22) (.tmp 24) (.const (.bool true)) 69 rfl 3 4 keI under69 ba am (by rfl) (HM2.out.ext HX3.out) xw (by rfl) HOW.out (.bool true) (by rfl) ?_; intro w4 hm4 hg4)
        have hrg4 : RGO encQ OkQ w4 mb rr (mapL r.l) (pre ++ post) := (HG2.out.ext HX3.out).kept hg4 (by
          rintro b rfl e
          injection e with e
          have h1 := HG2.out
          have h2 := h1.1.lt
          obtain ⟨-, -, es, ck, hb, -⟩ := HH.out.map.2
          have := HBA.out
          have := HH.out.map.lt b rfl
          omega) (by simp; omega)
        refine ⟨⟨_, _, _, _, _, _, _, _, _, _, _, _, _, ⟨pre ++ post, _, hrg4, Lib.hid hm4, Lib.hid (fun k => ?_), Lib.hid ((hg4.block _ (Nat.lt_of_lt_of_le (Rg.lt_of_heap HB2.out) HX3.out.size) (by have := HBX.out; have := HBA.out; simp; omega)).trans ((HX3.out.block _ (Rg.lt_of_heap HB2.out)).trans HB2.out)), Lib.hid (Below.trans (HX2.out.trans HX3.out) ⟨hg4.os, hg4.tape, hg4.output, hg4.size, fun k hk => hg4.block k (by have := (HX2.out.trans HX3.out).size; omega) (by have := HBA.out; simp; omega)⟩)⟩, rfl⟩, HMS.out _ hrg4⟩
        have := hstep.out k
        rw [put_mem]
        exact this
      | false =>
        rw [hd] at hGz
        rw [hd] at hstep
        simp only [Bool.false_eq_true, if_false] at hstep
        clear hd
        go_wp2_with (with_reducible refine hGz.mono ?_; rintro e' w3 ⟨rfl, hx3⟩)
        have hx23 := HXA.out.trans hx3
        have hrg3 := HG2.out.ext hx23
        exact ⟨⟨pre ++ post, am, hrg3, Lib.hid (HM2.out.ext hx23), hstep, Lib.hid ((hx23.block _ (Rg.lt_of_heap HB2.out)).trans HB2.out), Lib.hid (HX2.out.trans hx23)⟩, HMS.out _ hrg3⟩
end Go.Proofs.Ytbeoihjfjkbfhaa

namespace Go.Proofs.Ytbeoihjfjkbfhaa
set_option linter.unusedVariables false
set_option linter.unusedSimpArgs false
open Go.RowKit
def askE (r : Rl) (q : Qn) (t : Int) : Int :=
  if q.text.size = 0 ∨ 4000 < q.text.size then 1 else if r.closed = true then 31 else if r.timed = true ∧ t < r.last then 32 else if q ∈ r.l.map (·.1) then 33 else if 1000 ≤ r.l.length then 2 else 0
def askR (r : Rl) (q : Qn) (t : Int) : Rl := if askE r q t = 0 then r.asked q t else r
theorem ask_any {B : Nat} (p : Nat) (mb : Option Nat) (r : Rl) (q : Qn) (t : Int) (w : World) (h : RW B w p mb r) (hB : B ≤ w.heap.size) (hw : OkI q.who) (ht : OkI t) :
    Calls Try.prog 20 #[.pointer (some ⟨p, 0, none⟩), .int .i64 q.who, .int .i64 t, .string q.text] w fun e w' => e = .returned (.int .i64 (askE r q t)) ∧ ∃ mb', RW B w' p mb' (askR r q t) ∧ KW p mb w w' ∧ (mb' = mb ∨ ∃ b, mb' = some b ∧ w.heap.size ≤ b) := by
  have hcl : ∀ (n : Int), n ≠ 0 → askE r q t = n → (Calls Try.prog 20 #[.pointer (some ⟨p, 0, none⟩), .int .i64 q.who, .int .i64 t, .string q.text] w fun e w' => e = .returned (.int .i64 n) ∧ Ext w w') →
      Calls Try.prog 20 #[.pointer (some ⟨p, 0, none⟩), .int .i64 q.who, .int .i64 t, .string q.text] w fun e w' => e = .returned (.int .i64 (askE r q t)) ∧ ∃ mb', RW B w' p mb' (askR r q t) ∧ KW p mb w w' ∧ (mb' = mb ∨ ∃ b, mb' = some b ∧ w.heap.size ≤ b) := fun n hn he hc =>
    hc.mono fun _ _ ⟨h1, h2⟩ => ⟨by rw [h1, he], mb, by unfold askR; rw [if_neg (by rw [he]; exact hn)]; exact h.ext h2, KW.of_ext h2, .inl rfl⟩
  by_cases h1 : q.text.size = 0 ∨ 4000 < q.text.size
  · exact hcl 1 (by decide) (by unfold askE; rw [if_pos h1]) (ask_bad p q.who t q.text w h1)
  have hs : ¬ q.text.size = 0 := fun e => h1 (.inl e)
  have hs4 : q.text.size ≤ 4000 := by omega
  by_cases h2 : r.closed = true
  · exact hcl 31 (by decide) (by unfold askE; rw [if_neg h1, if_pos h2]) (ask_closed p mb r q t w h hs hs4 h2)
  have hc : r.closed = false := by simpa using h2
  by_cases h3 : r.timed = true ∧ t < r.last
  · exact hcl 32 (by decide) (by unfold askE; rw [if_neg h1, if_neg h2, if_pos h3]) (ask_old p mb r q t w h hs hs4 hc h3)
  by_cases h4 : q ∈ r.l.map (·.1)
  · exact hcl 33 (by decide) (by unfold askE; rw [if_neg h1, if_neg h2, if_neg h3, if_pos h4]) (ask_twice p mb r q t w h hs ⟨hw, hs4⟩ hc h3 h4)
  by_cases h5 : 1000 ≤ r.l.length
  · exact hcl 2 (by decide) (by unfold askE; rw [if_neg h1, if_neg h2, if_neg h3, if_neg h4, if_pos h5]) (ask_many p mb r q t w h hs ⟨hw, hs4⟩ hc h3 h4 h5)
  have he : askE r q t = 0 := by unfold askE; rw [if_neg h1, if_neg h2, if_neg h3, if_neg h4, if_neg h5]
  refine (ask_ok p mb r q t w h hB hs ⟨hw, hs4⟩ ht hc h3 h4 h5).mono ?_
  rintro e w' ⟨rfl, mb', k1, k2, k3⟩
  exact ⟨by rw [he], mb', by unfold askR; rw [if_pos he]; exact k1, k2, k3⟩
theorem BatR.mono {n n' : Nat} {w : World} {v : Value} {o : Option (List ByteArray)} (h : BatR n w v o) (hn : n' ≤ n) : BatR n' w v o := by
  cases o with
  | none => exact h
  | some ts =>
    obtain ⟨g, u, h1, h2, h3, h4⟩ := h
    refine ⟨g, u, h1, Nat.le_trans hn h2, h3, h4.1, h4.2.imp id ?_⟩
    rintro ⟨g, cp, cur, e1, e2, e3⟩
    exact ⟨g, cp, cur, e1, Nat.le_trans hn e2, e3⟩
theorem BatR.keep {n : Nat} {w w' : World} {v : Value} {o : Option (List ByteArray)} (h : BatR n w v o) (hk : ∀ k, n ≤ k → k < w.heap.size → w'.heap[k]? = w.heap[k]?) : BatR n w' v o := by
  cases o with
  | none => exact h
  | some ts =>
    obtain ⟨g, u, h1, h2, h3, h4⟩ := h
    refine ⟨g, u, h1, h2, (hk _ h2 (Rg.lt_of_heap h3)).trans h3, h4.1, h4.2.imp id ?_⟩
    rintro ⟨g, cp, cur, e1, e2, e3, e4⟩
    exact ⟨g, cp, cur, e1, e2, (hk _ e2 (Rg.lt_of_heap e3)).trans e3, e4⟩
noncomputable def tickF (r : Rl) (t : Int) : Option (List ByteArray) × Rl :=
  if r.closed = true ∨ r.timed = true ∧ t < r.last then (none, r) else giveF { r with last := t, timed := true } (fun z => decide (z < perF r.every t))
noncomputable def closeF (r : Rl) : Option (List ByteArray) × Rl :=
  if r.closed = true then (none, r) else ((giveF r fun _ => true).1, { (giveF r fun _ => true).2 with l := [], closed := true })
theorem tick_nil (t : Int) (w : World) : Calls Try.prog 16 #[.pointer none, .int .i64 t] w fun e w' => e = .returned (.slice none 0 0) ∧ w' = w := by
  go_enter Try.func16, Try.ntmps16
  go_wp2
  go_ret
  exact ⟨rfl, rfl⟩
theorem close_nil (w : World) : Calls Try.prog 18 #[.pointer none] w fun e w' => e = .returned (.slice none 0 0) ∧ w' = w := by
  go_enter Try.func18, Try.ntmps18
  go_wp2
  go_ret
  exact ⟨rfl, rfl⟩
set_option maxRecDepth 100000 in
set_option maxHeartbeats 4000000 in
theorem tick_any {B : Nat} (p : Nat) (mb : Option Nat) (r : Rl) (t : Int) (w : World) (h : RW B w p mb r) (ht : OkI t) :
    Calls Try.prog 16 #[.pointer (some ⟨p, 0, none⟩), .int .i64 t] w fun e w' => ∃ v, e = .returned v ∧ BatR w.heap.size w' v (tickF r t).1 ∧ RW B w' p mb (tickF r t).2 ∧ KW p mb w w' := by
  obtain ⟨-, -, c2, c3, c4, c5⟩ := Rl.cells_at h.row
  have f3 := (Rg.cells_of h.row).2.1 3
  have f4 := (Rg.cells_of h.row).2.1 4
  have hO := old_any p mb r t w h.row
  have hpl := h.lt
  have HH := Lib.hid h; have HT := Lib.hid ht
  cases hc : r.closed with
  | true =>
    have HV : Hid (tickF r t = (none, r)) := Lib.hid (by unfold tickF; rw [if_pos (.inl hc)])
    rw [hc] at c5
    clear h ht hc hO
    go_enter Try.func16, Try.ntmps16
    go_wp2
    go_ret
    exact ⟨_, rfl, by rw [HV.out]; rfl, by rw [HV.out]; exact HH.out, KW.refl _ _ _⟩
  | false =>
    rw [hc] at c5
    cases ho : (r.timed && decide (t < r.last)) with
    | true =>
      have HV : Hid (tickF r t = (none, r)) := Lib.hid (by unfold tickF; rw [if_pos (.inr (by simpa using ho))])
      rw [ho] at hO
      clear h ht hc ho
      go_enter Try.func16, Try.ntmps16
      go_wp2_with (go_at_call 26; (with_reducible refine hO.mono ?_); rintro e w1 ⟨rfl, rfl⟩)
      go_ret
      exact ⟨_, rfl, by rw [HV.out]; rfl, by rw [HV.out]; exact HH.out, KW.refl _ _ _⟩
    | false =>
      have hno : ¬ (r.closed = true ∨ r.timed = true ∧ t < r.last) := by
        rw [hc]
        rintro (h | ⟨h1, h2⟩)
        · cases h
        · simp [h1, h2] at ho
      have HV : Hid (tickF r t = giveF { r with last := t, timed := true } (fun z => decide (z < perF r.every t))) := Lib.hid (by unfold tickF; rw [if_neg hno])
      rw [ho] at hO
      clear h ht hc ho hno
      go_enter Try.func16, Try.ntmps16
      go_upto_region 4 with (go_at_call 26; (with_reducible refine hO.mono ?_); rintro e w1 ⟨rfl, rfl⟩)
      have hVrow : ((w1.setCell ⟨p, 3, none⟩ (.int .i64 t)).setCell ⟨p, 4, none⟩ (.bool true)).heap[p]? = some (.cells (({ r with last := t, timed := true } : Rl).cells mb) 56) := by
        have h1 := heap_setCell_row (o := 3) (.int .i64 t) HH.out.row
        exact heap_setCell_row (o := 4) (.bool true) h1
      have hVK : KW p mb w1 ((w1.setCell ⟨p, 3, none⟩ (.int .i64 t)).setCell ⟨p, 4, none⟩ (.bool true)) := ((KW.refl _ _ _).setCell _).setCell _
      have hVM : MQ B ((w1.setCell ⟨p, 3, none⟩ (.int .i64 t)).setCell ⟨p, 4, none⟩ (.bool true)) mb r.l := HH.out.map.of_block fun b e => by
        have hb : b ≠ p := fun e2 => HH.out.ne (by rw [e, e2])
        rw [heap_setCell_other _ hb, heap_setCell_other _ hb]
      have hVR : RW B ((w1.setCell ⟨p, 3, none⟩ (.int .i64 t)).setCell ⟨p, 4, none⟩ (.bool true)) p mb { r with last := t, timed := true } := ⟨HH.out.at_, hVrow, hVM, ⟨HH.out.ok.least, HH.out.ok.every, HT.out, HH.out.ok.per, HH.out.ok.len⟩⟩
      generalize (w1.setCell ⟨p, 3, none⟩ (.int .i64 t)).setCell ⟨p, 4, none⟩ (.bool true) = V at *
      have hPer := period_any p mb _ t V hVrow HH.out.ok.every HT.out
      change Calls Try.prog 27 _ _ (fun e w' => e = .returned (.int .i64 (perF r.every t)) ∧ w' = V) at hPer
      generalize perF r.every t = per at *
      have hxb : Ext V (V.alloc (.cells #[.int .i64 per] 3)) := Ext.alloc (Ext.refl _) _
      have hcb : (V.alloc (.cells #[.int .i64 per] 3)).cell? ⟨V.heap.size, 0, none⟩ = some (.int .i64 per) := cell_of_row _ _ 0 _ _ _ (alloc_at V _)
      have hG := give_any p mb _ 29 #[.pointer (some ⟨V.heap.size, 0, none⟩)] _ (V.alloc (.cells #[.int .i64 per] 3)) (hVR.ext hxb) (due_before V.heap.size per _ hcb)
      have HG := Lib.hid hG; have HP := Lib.hid hPer; have HVK := Lib.hid hVK; have HXB := Lib.hid hxb
      clear hVrow hVM hVR hPer hG hVK hxb hcb c2 c3 c4 c5 f3 f4 hO
      go_wp2_with (first
        | (go_at_call 27; (with_reducible refine HP.out.mono ?_); rintro e w5 ⟨rfl, hw5⟩; have h9 := hw5.symm; clear hw5; subst h9)
        | (go_at_call 28; (with_reducible refine HG.out.mono ?_); rintro e w6 ⟨v, rfl, hb6, hr6, hk6⟩))
      go_ret
      refine ⟨_, rfl, ?_, ?_, (HVK.out.trans (KW.of_ext HXB.out)).trans hk6⟩
      · rw [HV.out]
        exact hb6.mono (Nat.le_trans HVK.out.size HXB.out.size)
      · rw [HV.out]
        exact hr6
set_option maxRecDepth 100000 in
set_option maxHeartbeats 4000000 in
theorem close_any {B : Nat} (p : Nat) (mb : Option Nat) (r : Rl) (w : World) (h : RW B w p mb r) :
    Calls Try.prog 18 #[.pointer (some ⟨p, 0, none⟩)] w fun e w' => ∃ v, e = .returned v ∧ BatR w.heap.size w' v (closeF r).1 ∧ (∃ mb', RW B w' p mb' (closeF r).2 ∧ (mb' = mb ∨ mb' = none)) ∧ KW p mb w w' := by
  obtain ⟨-, -, -, -, -, c5⟩ := Rl.cells_at h.row
  have hpl := h.lt
  have HH := Lib.hid h
  cases hc : r.closed with
  | true =>
    have HV : Hid (closeF r = (none, r)) := Lib.hid (by unfold closeF; rw [if_pos hc])
    rw [hc] at c5
    clear h hc
    go_enter Try.func18, Try.ntmps18
    go_wp2
    go_ret
    exact ⟨_, rfl, by rw [HV.out]; rfl, ⟨mb, by rw [HV.out]; exact HH.out, .inl rfl⟩, KW.refl _ _ _⟩
  | false =>
    have HV : Hid (closeF r = ((giveF r fun _ => true).1, { (giveF r fun _ => true).2 with l := [], closed := true })) := Lib.hid (by unfold closeF; rw [if_neg (by rw [hc]; decide)])
    rw [hc] at c5
    have HG := Lib.hid (give_any p mb r 32 #[] _ w h (due_all w))
    clear h hc
    obtain ⟨G, hG⟩ : ∃ G, G = giveF r fun _ => true := ⟨_, rfl⟩
    rw [← hG] at HG HV
    clear hG
    go_enter Try.func18, Try.ntmps18
    go_upto_region 4 with (go_at_call 28; (with_reducible refine HG.out.mono ?_); rintro e w6 ⟨v, rfl, hb6, hr6, hk6⟩)
    have f2 := (Rg.cells_of hr6.row).2.1 2
    have f5 := (Rg.cells_of hr6.row).2.1 5
    obtain ⟨-, -, d2, -, -, d5⟩ := Rl.cells_at hr6.row
    have hpl6 := hr6.lt
    have HB6 := Lib.hid hb6; have HR6 := Lib.hid hr6; have HK6 := Lib.hid hk6
    clear hb6 hr6 hk6
    go_wp2
    go_ret
    refine ⟨_, rfl, ?_, ⟨none, ?_, .inr rfl⟩, (HK6.out.setCell _).setCell _⟩
    · rw [HV.out]
      exact HB6.out.keep fun k hk _ => by rw [heap_setCell_other _ (by omega), heap_setCell_other _ (by omega)]
    · rw [HV.out]
      have h1 := heap_setCell_row (o := 2) (.map none) HR6.out.row
      have h2 := heap_setCell_row (o := 5) (.bool true) h1
      exact ⟨HR6.out.at_, h2, rfl, ⟨HR6.out.ok.least, HR6.out.ok.every, HR6.out.ok.last, by simp, by simp⟩⟩
end Go.Proofs.Ytbeoihjfjkbfhaa

namespace Go.Proofs.Ytbeoihjfjkbfhaa
set_option linter.unusedVariables false
set_option linter.unusedSimpArgs false
open Go.RowKit
/-- A relay at p, from B on. -/
def RX (B : Nat) (w : World) (p : Nat) (r : Rl) : Prop := B ≤ w.heap.size ∧ ∃ mb, RW B w p mb r
theorem RX.ext {B : Nat} {w w' : World} {p : Nat} {r : Rl} (h : RX B w p r) (x : Ext w w') : RX B w' p r := by
  obtain ⟨hB, mb, h⟩ := h
  exact ⟨Nat.le_trans hB x.size, mb, h.ext x⟩
theorem new_x (least every : Int) (w : World) (hl : OkI least) (he : OkI every) :
    Calls Try.prog 12 #[.int .i64 least, .int .i64 every] w fun e w' => e = .returned (.pointer (some ⟨w.heap.size, 0, none⟩)) ∧ RX w.heap.size w' w.heap.size ⟨least, every, [], 0, false, false⟩ ∧ Ext w w' :=
  (new_any least every w hl he).mono fun _ _ ⟨h1, h2, h3⟩ => ⟨h1, ⟨h3.size, none, h2⟩, h3⟩
theorem ask_x {B : Nat} {p : Nat} {r : Rl} {w : World} (h : RX B w p r) (q : Qn) (t : Int) (hw : OkI q.who) (ht : OkI t) (n : Int) (r' : Rl) (hn : askE r q t = n) (hr : askR r q t = r') :
    Calls Try.prog 20 #[.pointer (some ⟨p, 0, none⟩), .int .i64 q.who, .int .i64 t, .string q.text] w fun e w' => e = .returned (.int .i64 n) ∧ RX B w' p r' ∧ Below B w w' := by
  obtain ⟨hB, mb, h⟩ := h
  subst hn hr
  refine (ask_any p mb r q t w h hB hw ht).mono ?_
  rintro e w' ⟨h1, mb', h2, h3, h4⟩
  exact ⟨h1, ⟨Nat.le_trans hB h3.size, mb', h2⟩, h3.below hB h.at_ fun b e => (h.map.lt b e).1⟩
theorem tick_x {B : Nat} {p : Nat} {r : Rl} {w : World} (h : RX B w p r) (t : Int) (ht : OkI t) (o : Option (List ByteArray)) (r' : Rl) (ho : (tickF r t).1 = o) (hr : (tickF r t).2 = r') :
    Calls Try.prog 16 #[.pointer (some ⟨p, 0, none⟩), .int .i64 t] w fun e w' => ∃ v, e = .returned v ∧ BatR w.heap.size w' v o ∧ RX B w' p r' ∧ Below B w w' := by
  obtain ⟨hB, mb, h⟩ := h
  subst ho hr
  refine (tick_any p mb r t w h ht).mono ?_
  rintro e w' ⟨v, h1, h2, h3, h4⟩
  exact ⟨v, h1, h2, ⟨Nat.le_trans hB h4.size, mb, h3⟩, h4.below hB h.at_ fun b e => (h.map.lt b e).1⟩
theorem close_x {B : Nat} {p : Nat} {r : Rl} {w : World} (h : RX B w p r) (o : Option (List ByteArray)) (r' : Rl) (ho : (closeF r).1 = o) (hr : (closeF r).2 = r') :
    Calls Try.prog 18 #[.pointer (some ⟨p, 0, none⟩)] w fun e w' => ∃ v, e = .returned v ∧ BatR w.heap.size w' v o ∧ RX B w' p r' ∧ Below B w w' := by
  obtain ⟨hB, mb, h⟩ := h
  subst ho hr
  refine (close_any p mb r w h).mono ?_
  rintro e w' ⟨v, h1, h2, ⟨mb', h3, -⟩, h4⟩
  exact ⟨v, h1, h2, ⟨Nat.le_trans hB h4.size, mb', h3⟩, h4.below hB h.at_ fun b e => (h.map.lt b e).1⟩
theorem waiting_x {B : Nat} {p : Nat} {r : Rl} {w : World} (h : RX B w p r) (n : Nat) (hn : r.l.length = n) :
    Calls Try.prog 22 #[.pointer (some ⟨p, 0, none⟩)] w fun e w' => e = .returned (.int .i64 n) ∧ w' = w := by
  obtain ⟨hB, mb, h⟩ := h
  subst hn
  exact waiting_any p mb r w h
theorem Below.then {B : Nat} {a b c : World} (h : Below B a b) (k : Below B b c) : Below B a c := Below.trans h k
def tA : ByteArray := ⟨#[97, 63]⟩
def tB : ByteArray := ⟨#[98, 63]⟩
def tC : ByteArray := ⟨#[99, 63]⟩
def tD : ByteArray := ⟨#[100, 63]⟩
def tE : ByteArray := ⟨#[101, 63]⟩
def s0 : Rl := ⟨2, 10, [], 0, false, false⟩
def s1 : Rl := ⟨2, 10, [(⟨1, tA⟩, 0)], 3, true, false⟩
def s2 : Rl := ⟨2, 10, [(⟨1, tA⟩, 0), (⟨1, tB⟩, 0)], 4, true, false⟩
def s3 : Rl := ⟨2, 10, [(⟨1, tA⟩, 0), (⟨1, tB⟩, 0)], 12, true, false⟩
def s4 : Rl := ⟨2, 10, [(⟨1, tA⟩, 0), (⟨1, tB⟩, 0), (⟨2, tC⟩, 1)], 13, true, false⟩
def s5 : Rl := ⟨2, 10, [(⟨1, tA⟩, 0), (⟨1, tB⟩, 0), (⟨2, tC⟩, 1)], 19, true, false⟩
def s6 : Rl := ⟨2, 10, [], 20, true, false⟩
def s7 : Rl := ⟨2, 10, [(⟨3, tD⟩, 2)], 21, true, false⟩
def s8 : Rl := ⟨2, 10, [], 21, true, true⟩
theorem e1 : askE s0 ⟨1, tA⟩ 3 = 0 := by decide
theorem e2 : askE s1 ⟨1, tB⟩ 4 = 0 := by
  unfold askE
  rw [if_neg (by decide), if_neg (by decide), if_neg (by decide), if_neg (by simp [s1, tA, tB]), if_neg (by decide)]
theorem e4 : askE s3 ⟨2, tC⟩ 13 = 0 := by
  unfold askE
  rw [if_neg (by decide), if_neg (by decide), if_neg (by decide), if_neg (by simp [s3, tA, tB, tC]), if_neg (by decide)]
theorem e6 : askE s6 ⟨3, tD⟩ 19 = 32 := by decide
theorem e7 : askE s6 ⟨3, ⟨#[]⟩⟩ 21 = 1 := by decide
theorem e8 : askE s6 ⟨3, tD⟩ 21 = 0 := by decide
theorem e9 : askE s8 ⟨4, tE⟩ 30 = 31 := by decide
theorem r1 : askR s0 ⟨1, tA⟩ 3 = s1 := by unfold askR; rw [if_pos e1]; rfl
theorem r2 : askR s1 ⟨1, tB⟩ 4 = s2 := by unfold askR; rw [if_pos e2]; rfl
theorem r4 : askR s3 ⟨2, tC⟩ 13 = s4 := by unfold askR; rw [if_pos e4]; rfl
theorem r6 : askR s6 ⟨3, tD⟩ 19 = s6 := by unfold askR; rw [if_neg (by rw [e6]; decide)]
theorem r7 : askR s6 ⟨3, ⟨#[]⟩⟩ 21 = s6 := by unfold askR; rw [if_neg (by rw [e7]; decide)]
theorem r8 : askR s6 ⟨3, tD⟩ 21 = s7 := by unfold askR; rw [if_pos e8]; rfl
theorem r9 : askR s8 ⟨4, tE⟩ 30 = s8 := by unfold askR; rw [if_neg (by rw [e9]; decide)]
theorem k3 : tickF s2 12 = (none, s3) := by
  unfold tickF
  rw [if_neg (by decide)]
  unfold giveF
  rw [if_pos (by decide)]
  rfl
theorem k5 : tickF s4 19 = (none, s5) := by
  unfold tickF
  rw [if_neg (by decide)]
  unfold giveF
  rw [if_pos (by decide)]
  rfl
theorem k6 : tickF s5 20 = (some (srtT [tA, tB, tC]), s6) := by
  unfold tickF
  rw [if_neg (by decide)]
  unfold giveF
  rw [if_neg (by decide)]
  rfl
theorem k8 : closeF s7 = (none, s8) := by
  unfold closeF
  rw [if_neg (by decide)]
  unfold giveF
  rw [if_pos (by decide)]
  rfl
end Go.Proofs.Ytbeoihjfjkbfhaa

namespace Go.Proofs.Ytbeoihjfjkbfhaa
set_option linter.unusedVariables false
set_option linter.unusedSimpArgs false
open Go.RowKit
theorem row_slice {B E sz n : Nat} {w : World} {v : Value} {xs : List Value} (h : w.ownsRow B E sz v n xs) : ∃ a c, v = .slice a n c := by
  rcases h.2 with ⟨rfl, rfl⟩ | ⟨g, cap, cur, rfl, -⟩
  · exact ⟨_, _, rfl⟩
  · exact ⟨_, _, rfl⟩
theorem okI_small {z : Int} (h : -1000000 ≤ z ∧ z ≤ 1000000) : OkI z := ⟨by omega, by omega⟩
set_option maxRecDepth 100000 in
set_option maxHeartbeats 4000000 in
theorem sanity_any (w : World) : Calls Try.prog 11 #[] w fun e w' => e = .returned (.bool true) ∧ Ext w w' := by
  obtain ⟨p, hp⟩ : ∃ p, p = w.heap.size := ⟨_, rfl⟩
  have hN := new_x 2 10 w (okI_small (by omega)) (okI_small (by omega))
  rw [← hp] at hN
  have HP := Lib.hid hp
  clear hp
  go_enter Try.func11, Try.ntmps11
  go_upto_region 7 with (first
    | (go_at_call 12; refine hN.mono ?_; rintro e w1 ⟨rfl, hr0, hx0⟩)
    | (go_at_call 20; refine (ask_x hr0 ⟨1, tA⟩ 3 (okI_small (by decide)) (okI_small (by decide)) 0 s1 e1 r1).mono ?_; rintro e w2 ⟨rfl, hr1, hb1⟩; clear hr0)
    | (go_at_call 20; refine (ask_x hr1 ⟨1, tB⟩ 4 (okI_small (by decide)) (okI_small (by decide)) 0 s2 e2 r2).mono ?_; rintro e w3 ⟨rfl, hr2, hb2⟩; clear hr1)
    | (go_at_call 16; refine (tick_x hr2 12 (okI_small (by decide)) none s3 (by rw [k3]) (by rw [k3])).mono ?_; rintro e w4 ⟨v4, rfl, hv4, hr3, hb3⟩; have h9 : v4 = .slice none 0 0 := hv4; clear hv4; subst h9; clear hr2)
    | (go_at_call 20; refine (ask_x hr3 ⟨2, tC⟩ 13 (okI_small (by decide)) (okI_small (by decide)) 0 s4 e4 r4).mono ?_; rintro e w5 ⟨rfl, hr4, hb4⟩; clear hr3)
    | (go_at_call 16; refine (tick_x hr4 19 (okI_small (by decide)) none s5 (by rw [k5]) (by rw [k5])).mono ?_; rintro e w6 ⟨v6, rfl, hv6, hr5, hb5⟩; have h9 : v6 = .slice none 0 0 := hv6; clear hv6; subst h9; clear hr4)
    | (go_at_call 22; refine (waiting_x hr5 3 rfl).mono ?_; rintro e w7 ⟨rfl, hw7⟩; have h9 := hw7.symm; clear hw7; subst h9)
    | (go_at_call 16; refine (tick_x hr5 20 (okI_small (by decide)) _ s6 (by rw [k6]) (by rw [k6])).mono ?_; rintro e w8 ⟨v8, rfl, ⟨g8, u8, rfl, hg8, hc8, hu8⟩, hr6, hb6⟩; clear hr5))
  obtain ⟨ua, uc, rfl⟩ : ∃ a c, u8 = .slice a 3 c := by
    obtain ⟨a, c, h⟩ := row_slice hu8
    rw [srtT_len] at h
    exact ⟨a, c, h⟩
  have c8 : World.cell? _ ⟨g8, 0, none⟩ = some (Value.slice ua 3 uc) := cell_of_row _ _ 0 _ _ _ hc8
  have hl8 := Rg.lt_of_heap hc8
  clear hu8 hc8
  go_wp2_with (first
    | (go_at_call 22; refine (waiting_x hr6 0 rfl).mono ?_; rintro e w9 ⟨rfl, hw9⟩; have h9 := hw9.symm; clear hw9; subst h9)
    | (go_at_call 20; refine (ask_x hr6 ⟨3, tD⟩ 19 (okI_small (by decide)) (okI_small (by decide)) 32 s6 e6 r6).mono ?_; rintro e w10 ⟨rfl, hr7, hb7⟩; clear hr6)
    | (go_at_call 20; refine (ask_x hr7 ⟨3, ⟨#[]⟩⟩ 21 (okI_small (by decide)) (okI_small (by decide)) 1 s6 e7 r7).mono ?_; rintro e w11 ⟨rfl, hr8, hb8⟩; clear hr7)
    | (go_at_call 20; refine (ask_x hr8 ⟨3, tD⟩ 21 (okI_small (by decide)) (okI_small (by decide)) 0 s7 e8 r8).mono ?_; rintro e w12 ⟨rfl, hr9, hb9⟩; clear hr8)
    | (go_at_call 18; refine (close_x hr9 none s8 (by rw [k8]) (by rw [k8])).mono ?_; rintro e w13 ⟨v13, rfl, hv13, hr10, hb10⟩; have h9 : v13 = .slice none 0 0 := hv13; clear hv13; subst h9; clear hr9)
    | (go_at_call 20; refine (ask_x hr10 ⟨4, tE⟩ 30 (okI_small (by decide)) (okI_small (by decide)) 31 s8 e9 r9).mono ?_; rintro e w14 ⟨rfl, hr11, hb11⟩; clear hr10))
  go_ret
  refine ⟨rfl, ?_⟩
  have hall := Below.trans hb1 (Below.trans hb2 (Below.trans hb3 (Below.trans hb4 (Below.trans hb5 (Below.trans hb6 (Below.trans hb7 (Below.trans hb8 (Below.trans hb9 (Below.trans hb10 hb11)))))))))
  exact hx0.below_trans (HP.out ▸ hall)
end Go.Proofs.Ytbeoihjfjkbfhaa

namespace Go.Proofs.Ytbeoihjfjkbfhaa
set_option linter.unusedVariables false
set_option linter.unusedSimpArgs false
open Go.RowKit
theorem tmod_bd (n : Int) {m : Int} (hm : 0 < m) : -m < n.tmod m ∧ n.tmod m < m := by
  have h1 := Int.tmod_lt_of_pos n hm
  have h2 := Int.tmod_lt_of_pos (-n) hm
  rw [Int.neg_tmod] at h2
  exact ⟨by omega, h1⟩
theorem modZ_eq (n m : Int) : (n.tmod m + m) % m = n % m := by
  rw [Int.add_emod_right]
  conv => rhs; rw [← Int.tmod_add_mul_tdiv n m]
  rw [Int.add_mul_emod_self_left]
theorem modZ_bd (n : Int) {m : Int} (hm : 0 < m) : 0 ≤ n % m ∧ n % m < m :=
  ⟨Int.emod_nonneg _ (by omega), Int.emod_lt_of_pos _ hm⟩

set_option maxHeartbeats 400000 in
theorem mod_any (n m : Int) (hm : 0 < m) (hm2 : m ≤ 1000000) (h : OkI n) (w : World) :
    Calls Try.prog 24 #[.int .i64 n, .int .i64 m] w fun e w' => e = .returned (.int .i64 (n % m)) ∧ w = w' := by
  obtain ⟨h1, h2⟩ := h
  have hm0 : ¬ m = 0 := by omega
  have b := tmod_bd n hm
  have HE := Lib.hid (modZ_eq n m)
  go_enter Try.func24, Try.ntmps24
  go_wp2
  go_ret
  exact ⟨by rw [HE.out]; rfl, rfl⟩

def txtF (n : Int) : ByteArray := if n % 12 = 11 then ⟨#[]⟩ else ⟨#[UInt8.ofNat (97 + n % 12).toNat, 63]⟩
set_option maxRecDepth 100000 in
set_option maxHeartbeats 1000000 in
theorem text_any (n : Int) (w : World) (h : OkI n) : Calls Try.prog 25 #[.int .i64 n] w fun e w' => e = .returned (.string (txtF n)) ∧ Ext w w' := by
  have hM := mod_any n 12 (by decide) (by decide) h w
  obtain ⟨k, hk⟩ : ∃ k, k = n % 12 := ⟨_, rfl⟩
  have k0 : 0 ≤ k := by omega
  have k1 : k < 12 := by omega
  have HT : Hid (txtF n = if k = 11 then ⟨#[]⟩ else ⟨#[UInt8.ofNat (97 + k).toNat, 63]⟩) := Lib.hid (by rw [hk]; rfl)
  rw [← hk] at hM
  clear hk
  by_cases hk11 : k = 11
  · subst hk11
    rw [HT.out, if_pos rfl]
    go_enter Try.func25, Try.ntmps25
    go_wp2_with (go_at_call 24; (with_reducible refine hM.mono ?_); rintro e w1 ⟨rfl, rfl⟩)
    go_ret
    exact ⟨rfl, Ext.refl _⟩
  · have HK := Lib.hid hk11
    have hcv := run_convert_bytes_arg (P := Try.prog) (w.alloc (.cells #[.int .u8 (97 + k)] 5)) 51 5 Try.underlying51 Try.underlying5 w.heap.size 0 1 1 [97 + k] rfl (fun i hi => by
      obtain rfl : i = 0 := by omega
      exact cell_of_row _ _ 0 _ _ _ (alloc_at w _)) 9 Try.underlying9
    obtain ⟨s1, hs1⟩ : ∃ s1, s1 = strOfNums [97 + k] := ⟨_, rfl⟩
    rw [← hs1] at hcv
    have hsz : s1.size = 1 := by rw [hs1, strOfNums_size]; rfl
    have HS1 : Hid (s1 ++ ⟨#[63]⟩ = txtF n) := Lib.hid (by
      rw [HT.out, if_neg hk11, hs1]
      rfl)
    clear hs1
    go_enter Try.func25, Try.ntmps25
    go_wp2_with (go_at_call 24; (with_reducible refine hM.mono ?_); rintro e w1 ⟨rfl, rfl⟩)
    go_ret
    exact ⟨by rw [← HS1.out]; rfl, Ext.alloc (Ext.refl _) _⟩
end Go.Proofs.Ytbeoihjfjkbfhaa

namespace Go.Proofs.Ytbeoihjfjkbfhaa
set_option linter.unusedVariables false
set_option linter.unusedSimpArgs false
open Go.RowKit
theorem str_at {w : World} {base : Option Addr} {n c : Nat} {l : List ByteArray} (h : SR celS 1 w (.slice base n c) l) (k : Nat) (hk : k < l.length) :
    ∃ b, base = some ⟨b, 0, none⟩ ∧ b < w.heap.size ∧ w.cell? ⟨b, k, none⟩ = some (.string l[k]) := by
  obtain ⟨b, h1, h2, h3⟩ := h.block k hk
  have h4 := h3 k hk 0 _ rfl
  rw [Nat.mul_one, Nat.add_zero] at h4
  exact ⟨b, h1, World.block_lt_of_cell? w _ h4, h4⟩
theorem same_none (w : World) : Calls Try.prog 15 #[.slice none 0 0, .slice none 0 0] w fun e w' => e = .returned (.bool true) ∧ Ext w w' := by
  go_enter Try.func15, Try.ntmps15
  go_wp2_with (fail)
  go_loopw [5] (fun k wr => k = .int .i64 0 ∧ w = wr) (fun _ _ => 0)
  case atStart => exact ⟨rfl, rfl⟩
  case round =>
    obtain ⟨rfl, rfl⟩ := hrel
    go_wp2_with (fail)
    go_ret
    exact ⟨rfl, Ext.refl _⟩
theorem same_n1 (a : Option Addr) (w : World) : Calls Try.prog 15 #[.slice none 0 0, .slice a 1 1] w fun e w' => e = .returned (.bool false) ∧ Ext w w' := by
  go_enter Try.func15, Try.ntmps15
  go_wp2
  go_ret
  exact ⟨rfl, Ext.refl _⟩
theorem same_1n (a : Option Addr) (w : World) : Calls Try.prog 15 #[.slice a 1 1, .slice none 0 0] w fun e w' => e = .returned (.bool false) ∧ Ext w w' := by
  go_enter Try.func15, Try.ntmps15
  go_wp2
  go_ret
  exact ⟨rfl, Ext.refl _⟩
theorem take_eq_step {α : Type} {l m : List α} {k : Nat} (hl : k < l.length) (hm : k < m.length) (h : l.take k = m.take k) (he : l[k] = m[k]) : l.take (k + 1) = m.take (k + 1) := by
  rw [List.take_succ_eq_append_getElem hl, List.take_succ_eq_append_getElem hm, h, he]
set_option maxRecDepth 100000 in
set_option maxHeartbeats 4000000 in
theorem same_some (g1 g2 : Nat) (u1 u2 : Value) (l m : List ByteArray) (w : World) (h1 : w.cell? ⟨g1, 0, none⟩ = some u1) (h2 : w.cell? ⟨g2, 0, none⟩ = some u2) (hl : SR celS 1 w u1 l) (hm : SR celS 1 w u2 m) :
    Calls Try.prog 15 #[.slice (some ⟨g1, 0, none⟩) 1 1, .slice (some ⟨g2, 0, none⟩) 1 1] w fun e w' => e = .returned (.bool (decide (l = m))) ∧ Ext w w' := by
  obtain ⟨a1, c1, rfl⟩ := hl.form
  obtain ⟨a2, c2, rfl⟩ := hm.form
  have hle1 := hl.le; have hle2 := hm.le
  have b1 := World.block_lt_of_cell? w _ h1; have b2 := World.block_lt_of_cell? w _ h2
  obtain ⟨R, hR⟩ : ∃ R, R = decide (l = m) := ⟨_, rfl⟩
  rw [← hR]
  have HR := Lib.hid hR
  clear hR
  go_enter Try.func15, Try.ntmps15
  go_wp2_with (fail)
  go_loopw [5] (fun k wr => ∃ i : Nat, k = .int .i64 i ∧ i ≤ 1 ∧ Hid (i = 1 → l = m) ∧ Ext w wr) (fun k _ => 1 - (iof k).toNat)
  case atStart => exact ⟨0, rfl, by omega, Lib.hid (by omega), Ext.refl _⟩
  case round =>
    obtain ⟨i, rfl, hi, HI, hx⟩ := hrel
    by_cases hi1 : i = 1
    · subst hi1
      have hlm := HI.out rfl
      have HLM := Lib.hid hlm
      clear hlm
      go_wp2_with (fail)
      go_ret
      exact ⟨by rw [HR.out, decide_eq_true HLM.out]; rfl, hx⟩
    · obtain rfl : i = 0 := by omega
      have d1 := (hx.cells.1 _ _ b1).trans h1
      have d2 := (hx.cells.1 _ _ b2).trans h2
      have e1 : g1 < wr.heap.size := Nat.lt_of_lt_of_le b1 hx.size
      have e2 : g2 < wr.heap.size := Nat.lt_of_lt_of_le b2 hx.size
      have HX := Lib.hid hx
      clear HI hi hi1 hx
      by_cases hlen : l.length = m.length
      · have HLEN := Lib.hid hlen
        have hlz : (l.length : Int) = (m.length : Int) := by omega
        go_upto_region 6 with (fail)
        go_quiet (fail)
        have HX1 := Lib.hid (HX.out.drewN nq)
        have JD1 : Hid ((wr.drewN nq).cell? ⟨g1, 0, none⟩ = some (.slice a1 l.length c1)) := Lib.hid d1
        have JD2 : Hid ((wr.drewN nq).cell? ⟨g2, 0, none⟩ = some (.slice a2 m.length c2)) := Lib.hid d2
        clear d1 d2 e1 e2 hlen
        generalize wr.drewN nq = W1 at *
        go_wp2_with (fail)
        clear hlz
        go_loopw [6] (fun k wq => ∃ j : Nat, k = .int .i64 j ∧ j ≤ l.length ∧ Hid (l.take j = m.take j) ∧ Ext W1 wq) (fun k _ => l.length - (iof k).toNat)
        case atStart => exact ⟨0, rfl, Nat.zero_le _, Lib.hid rfl, Ext.refl _⟩
        case round =>
          obtain ⟨j, rfl, hj, HJ, hxq⟩ := hrel
          rename World => wq
          have f1 : g1 < W1.heap.size := World.block_lt_of_cell? _ _ JD1.out
          have f2 : g2 < W1.heap.size := World.block_lt_of_cell? _ _ JD2.out
          have d1 := (hxq.cells.1 _ _ f1).trans JD1.out
          have d2 := (hxq.cells.1 _ _ f2).trans JD2.out
          have e1 : g1 < wq.heap.size := Nat.lt_of_lt_of_le f1 hxq.size
          have e2 : g2 < wq.heap.size := Nat.lt_of_lt_of_le f2 hxq.size
          clear f1 f2
          by_cases hjl : j < l.length
          · have hjm : j < m.length := by rw [← HLEN.out]; exact hjl
            obtain ⟨p1, rfl, q1, x1⟩ := str_at (hl.ext (HX1.out.trans hxq)) j hjl
            obtain ⟨p2, rfl, q2, x2⟩ := str_at (hm.ext (HX1.out.trans hxq)) j hjm
            have HST := Lib.hid (take_eq_step hjl hjm HJ.out)
            have HNE : Hid (l[j] ≠ m[j] → l ≠ m) := Lib.hid (fun h e => h (by subst e; rfl))
            have HXQ := Lib.hid hxq
            clear HJ hxq
            generalize l[j] = s1 at *
            generalize m[j] = s2 at *
            by_cases hs : s1 = s2
            · subst hs
              have HST2 := Lib.hid (HST.out rfl)
              clear HST HNE
              go_upto_region 11 with (fail)
              go_quiet (fail)
              go_wp2_with (fail)
              exact ⟨⟨j + 1, by simp, by omega, HST2, HXQ.out.drewN _⟩, by simp [iof]; omega⟩
            · have hs2 : ¬ s1.toList = s2.toList := fun e => hs (by rw [ByteArray.toList_eq, ByteArray.toList_eq] at e; exact Go.WideShapes.bytes_inj e)
              have hs3 : (s1.toList == s2.toList) = false := by simpa using hs2
              have HNE2 := Lib.hid (HNE.out hs)
              clear HST HNE hs
              go_upto_region 11 with (fail)
              go_quiet (fail)
              go_wp2_with (fail)
              go_ret
              exact ⟨by rw [HR.out, decide_eq_false HNE2.out]; rfl, (HX1.out.trans HXQ.out).drewN _⟩
          · obtain rfl : j = l.length := by omega
            have hlm : l = m := by
              have := HJ.out
              rw [List.take_length, HLEN.out, List.take_length] at this
              exact this
            have HLM := Lib.hid hlm
            have HXF := Lib.hid (HX1.out.trans hxq)
            clear hlm HJ hxq hjl
            obtain ⟨p1, q1⟩ : ∃ p1, a1 = p1 := ⟨_, rfl⟩
            go_wp2_with (fail)
            exact ⟨⟨1, by simp, by omega, Lib.hid (fun _ => HLM.out), HXF.out⟩, by simp [iof]⟩
      · have hlz : ¬ ((l.length : Int) = (m.length : Int)) := by omega
        go_upto_region 6 with (fail)
        go_quiet (fail)
        go_wp2_with (fail)
        go_ret
        exact ⟨by rw [HR.out, decide_eq_false (fun e => hlen (by rw [e]))]; rfl, HX.out.drewN _⟩
end Go.Proofs.Ytbeoihjfjkbfhaa

namespace Go.Proofs.Ytbeoihjfjkbfhaa
set_option linter.unusedVariables false
set_option linter.unusedSimpArgs false
open Go.RowKit
theorem same_any {n1 n2 : Nat} (v1 v2 : Value) (o1 o2 : Option (List ByteArray)) (w : World) (h1 : BatR n1 w v1 o1) (h2 : BatR n2 w v2 o2) (l1 : ∀ ts, o1 = some ts → ts.length ≤ 1000000) (l2 : ∀ ts, o2 = some ts → ts.length ≤ 1000000) :
    Calls Try.prog 15 #[v1, v2] w fun e w' => e = .returned (.bool (decide (o1 = o2))) ∧ Ext w w' := by
  cases o1 with
  | none =>
    have e1 : v1 = .slice none 0 0 := h1
    subst e1
    cases o2 with
    | none =>
      have e2 : v2 = .slice none 0 0 := h2
      subst e2
      simpa using same_none w
    | some ts =>
      obtain ⟨g, u, rfl, -⟩ := h2
      simpa using same_n1 (some ⟨g, 0, none⟩) w
  | some ts =>
    obtain ⟨g1, u1, rfl, a1, a2, a3⟩ := h1
    cases o2 with
    | none =>
      have e2 : v2 = .slice none 0 0 := h2
      subst e2
      simpa using same_1n (some ⟨g1, 0, none⟩) w
    | some ts2 =>
      obtain ⟨g2, u2, rfl, b1, b2, b3⟩ := h2
      have h := same_some g1 g2 u1 u2 ts ts2 w (cell_of_row _ _ 0 _ _ _ a2) (cell_of_row _ _ 0 _ _ _ b2) (SR.of_row (cs := celS) (fun _ => rfl) a3 (l1 _ rfl)) (SR.of_row (cs := celS) (fun _ => rfl) b3 (l2 _ rfl))
      have e : decide (some ts = some ts2) = decide (ts = ts2) := by simp
      rw [e]
      exact h
structure WI (need n : Int) (r : Rl) : Prop where
  least : r.least = need
  every : r.every = 1
  closed : r.closed = false
  who : ∀ p ∈ r.l, 0 ≤ p.1.who ∧ p.1.who < n
theorem WI.ask {need n : Int} {r : Rl} (h : WI need n r) (q : Qn) (t : Int) (h1 : 0 ≤ q.who) (h2 : q.who < n) : WI need n (askR r q t) := by
  unfold askR
  split
  · refine ⟨h.least, h.every, h.closed, fun p hp => ?_⟩
    rcases List.mem_append.1 hp with hp | hp
    · exact h.who p hp
    · rw [List.mem_singleton] at hp
      subst hp
      exact ⟨h1, h2⟩
  · exact h
theorem dis_few {n : Int} {L : List (Qn × Int)} (h : ∀ p ∈ L, 0 ≤ p.1.who ∧ p.1.who < n) (hn : 0 ≤ n) : ((dis (whos L)).length : Int) ≤ n := by
  have h1 := nodup_le (m := (List.range n.toNat).map (fun k : Nat => (k : Int))) (nodup_dis (whos L)) (fun x hx => by
    obtain ⟨p, hp, rfl⟩ := List.mem_map.1 (mem_dis.1 hx)
    have := h p hp
    exact List.mem_map.2 ⟨p.1.who.toNat, by simp; omega, by omega⟩)
  simp at h1
  omega
theorem give_few {need n : Int} {r : Rl} (h : WI need n r) (hn : 0 ≤ n) (hl : n < need) (due : Int → Bool) : giveF r due = (none, r) := by
  unfold giveF
  rw [if_pos]
  have := dis_few (L := dueL r due) (fun p hp => h.who p (List.mem_filter.1 hp).1) hn
  rw [h.least]
  omega
theorem tick_few {need n : Int} {r : Rl} (h : WI need n r) (hn : 0 ≤ n) (hl : n < need) (t : Int) : (tickF r t).1 = none ∧ WI need n (tickF r t).2 := by
  unfold tickF
  split
  · exact ⟨rfl, h⟩
  · have h2 : WI need n { r with last := t, timed := true } := ⟨h.least, h.every, h.closed, h.who⟩
    rw [give_few h2 hn hl]
    exact ⟨rfl, h2⟩
theorem close_few {need n : Int} {r : Rl} (h : WI need n r) (hn : 0 ≤ n) (hl : n < need) : (closeF r).1 = none ∧ (closeF r).2.l = [] := by
  unfold closeF
  rw [if_neg (by rw [h.closed]; decide), give_few h hn hl]
  exact ⟨rfl, rfl⟩
theorem ird_at {w : World} {base : Option Addr} {n c : Nat} {ls : List Int} (h : IRd w (.slice base n c) ls) (k : Nat) (hk : k < ls.length) :
    ∃ b off, base = some ⟨b, off, none⟩ ∧ b < w.heap.size ∧ w.cell? ⟨b, off + k, none⟩ = some (.int .i64 ls[k]) ∧ OkI ls[k] := by
  obtain ⟨A, cap, h1, h2, h3, h4⟩ := h
  injection h1 with e1 e2 e3
  subst e1
  obtain ⟨b, off, hb, hc⟩ := h4.resolve_left (by intro e; rw [e] at hk; simp at hk)
  exact ⟨b, off, hb, World.block_lt_of_cell? w _ (hc k hk), hc k hk, h3 _ (List.getElem_mem _)⟩
end Go.Proofs.Ytbeoihjfjkbfhaa

namespace Go.Proofs.Ytbeoihjfjkbfhaa
set_option linter.unusedVariables false
set_option linter.unusedSimpArgs false
open Go.RowKit Go.WideShapes Go.ChangeShapes
set_option maxRecDepth 100000

def RN (n : Nat) (w : World) (v : Value) (ls : List (List Int)) : Prop :=
  ∃ A cap, v = .slice A ls.length cap ∧ ls.length ≤ 9223372036854775807 ∧ (∀ z ∈ ls, z.length = n ∧ ∀ i ∈ z, OkI i) ∧
    (ls = [] ∨ ∃ b off, A = some ⟨b, off, none⟩ ∧ ∀ k (h : k < ls.length) j, j < n → w.cell? ⟨b, off + k * n + j, none⟩ = some (.int .i64 (ls[k].getD j 0)))
theorem RN.ext {n : Nat} {w w' : World} {v : Value} {ls : List (List Int)} (h : RN n w v ls) (e : Ext w w') : RN n w' v ls := by
  obtain ⟨A, cap, h1, h2, h3, h4⟩ := h
  exact ⟨A, cap, h1, h2, h3, h4.imp id fun ⟨b, off, ha, hc⟩ => ⟨b, off, ha, fun k hk j hj => (e.cells.1 _ _ (World.block_lt_of_cell? w _ (hc k hk j hj))).trans (hc k hk j hj)⟩⟩
theorem RN.form {n : Nat} {w : World} {v : Value} {ls : List (List Int)} (h : RN n w v ls) : ∃ A cap, v = .slice A ls.length cap ∧ ls.length ≤ 9223372036854775807 := by
  obtain ⟨A, cap, h1, h2, -⟩ := h
  exact ⟨A, cap, h1, h2⟩
theorem RN.at {n : Nat} {w : World} {A : Option Addr} {l c : Nat} {ls : List (List Int)} (h : RN n w (.slice A l c) ls) (k : Nat) (hk : k < ls.length) :
    ∃ b off, A = some ⟨b, off, none⟩ ∧ (∀ j, j < n → w.cell? ⟨b, off + k * n + j, none⟩ = some (.int .i64 (ls[k].getD j 0))) ∧ ∀ j, OkI (ls[k].getD j 0) := by
  obtain ⟨A', cap, h1, h2, h3, h4⟩ := h
  injection h1 with e1 e2 e3
  subst e1
  obtain ⟨b, off, ha, hc⟩ := h4.resolve_left (by intro e; rw [e] at hk; simp at hk)
  refine ⟨b, off, ha, hc k hk, fun j => ?_⟩
  rw [List.getD_eq_getElem?_getD]
  rcases Nat.lt_or_ge j ls[k].length with hj | hj
  · rw [List.getElem?_eq_getElem hj]
    exact (h3 _ (List.getElem_mem _)).2 _ (List.getElem_mem _)
  · rw [List.getElem?_eq_none hj]
    exact okI_small (by decide)

section
variable {H : Type} {enc : TypeId × Value → H} {W : World}
theorem i64_of_wf' {n : Int} (h : (Lit.int .i64 n).wf = true) : OkI n := i64_of_wf h
theorem kk3 : Try.prog.cellsOf 3 = 1 := by kernel_rfl
theorem kk5 : Try.prog.cellsOf 5 = 1 := by kernel_rfl
theorem kk23 : Try.prog.cellsOf 23 = 2 := by kernel_rfl
theorem kk46 : Try.prog.cellsOf 46 = 4 := by kernel_rfl
theorem u8_of_wf {n : Int} (h : (Lit.int .u8 n).wf = true) : 0 ≤ n ∧ n ≤ 255 := by
  simpa [Lit.wf, IntKind.min, IntKind.max, IntKind.signed, IntKind.bits] using h
theorem lst2 {α : Type} : ∀ (l : List α), l.length = 2 → ∃ x y, l = [x, y]
  | [x, y], _ => ⟨x, y, rfl⟩
theorem okWide_array {t e : TypeId} {m : Nat} {r : Reach} {b0 : Nat} {v : Value} (ht : Try.prog.underlying t = some (.array m e)) (h : Value.okWide Try.prog W r b0 t v) : ∃ cs, v = .agg cs ∧ cs.size = Try.prog.cellsOf t := by
  unfold Value.okWide at h
  rw [ht] at h
  obtain ⟨cs, h1, h2, -⟩ := h
  exact ⟨cs, h1, h2⟩
/-- An array of m ints. -/
theorem arr_ints {t e : TypeId} {m : Nat} {k : IntKind} {fuel : Nat} {cs : List Value} {x : DataW H × List MemPlace} (ht : Try.prog.underlying t = some (.array m e)) (he : Try.prog.underlying e = some (.int k)) (hc : Try.prog.cellsOf e = 1) (hct : Try.prog.cellsOf t = m)
    (h : DataW.trod enc Try.prog W 0 (fun _ => true) true fuel t cs = some x) : cs.length = m ∧ ∀ i, i < m → ∃ n, cs[i]? = some (.int k n) ∧ (Lit.int k n).wf = true := by
  cases fuel with
  | zero => simp [DataW.trod] at h
  | succ n =>
    have key : ∃ xs, cs.length = Try.prog.cellsOf t ∧ ((List.range m).mapM fun i => DataW.trod enc Try.prog W 0 (fun _ => true) true n e ((cs.drop (i * Try.prog.cellsOf e)).take (Try.prog.cellsOf e))) = some xs := by
      clear hc hct he
      unfold DataW.trod at h
      rw [ht] at h
      have fin : ∀ (cs : List Value) (x : DataW H × List MemPlace), (if cs.length = Try.prog.cellsOf t then Option.map (fun xs => (DataW.agg (List.map (fun x => x.fst) xs), List.flatMap (fun x => x.snd) xs)) (List.mapM (fun i => DataW.trod enc Try.prog W 0 (fun _ => true) true n e (List.take (Try.prog.cellsOf e) (List.drop (i * Try.prog.cellsOf e) cs))) (List.range m)) else none) = some x →
          ∃ xs, cs.length = Try.prog.cellsOf t ∧ ((List.range m).mapM fun i => DataW.trod enc Try.prog W 0 (fun _ => true) true n e ((cs.drop (i * Try.prog.cellsOf e)).take (Try.prog.cellsOf e))) = some xs := by
        intro cs x h
        split at h
        · rename_i hl
          obtain ⟨xs, hx, -⟩ := Option.map_eq_some_iff.1 h
          exact ⟨xs, hl, hx⟩
        · cases h
      split at h <;> first | (rename_i heq; cases heq; done) | (rename_i heq; injection heq with heq; injection heq with e1 e2; subst e1 e2; exact fin _ _ h) | exact fin _ _ h | (rename_i heq; injection heq with heq; cases heq; done)
    obtain ⟨xs, hl, hp⟩ := key
    rw [hct] at hl
    rw [hc] at hp
    simp only [Nat.mul_one] at hp
    refine ⟨hl, ?_⟩
    intro i hi
    have hg := mapM_some_get hp i i (by simp [hi])
    have hlen := mapM_some_length hp
    have hx : i < xs.length := by rw [hlen]; simpa using hi
    rw [List.getElem?_eq_getElem hx] at hg
    obtain ⟨n', h1, _, h3⟩ := DataW.trod_int he hg
    refine ⟨n', ?_, h3⟩
    have hi' : i < cs.length := by omega
    rw [List.drop_eq_getElem_cons hi', List.take_succ_cons, List.take_zero] at h1
    simp only [List.cons.injEq, and_true] at h1
    rw [List.getElem?_eq_getElem hi', h1]
theorem open_bytes2 {r : Go.Reach} {b0 : Nat} {v : Value} {d : DataW H} {ps : List MemPlace} (hval : Value.okWide Try.prog W r b0 23 v) (hd : DataW.Trod enc Try.prog W 0 (fun _ => true) true 23 v d ps) :
    ∃ q0 q1 : Int, v = .agg #[.int .u8 q0, .int .u8 q1] ∧ (0 ≤ q0 ∧ q0 ≤ 255) ∧ 0 ≤ q1 ∧ q1 ≤ 255 := by
  obtain ⟨fuel, hf⟩ := hd
  obtain ⟨cs, rfl, hsz⟩ := okWide_array Try.underlying23 hval
  rw [kk23] at hsz
  obtain ⟨x0, x1, hl⟩ := lst2 cs.toList (by simpa using hsz)
  obtain rfl : cs = #[x0, x1] := by cases cs; simp_all
  obtain ⟨h1, h2⟩ := arr_ints Try.underlying23 Try.underlying5 kk5 kk23 hf
  obtain ⟨q0, e0, w0⟩ := h2 0 (by decide)
  obtain ⟨q1, e1, w1⟩ := h2 1 (by decide)
  replace e0 : some x0 = some (Value.int .u8 q0) := e0
  replace e1 : some x1 = some (Value.int .u8 q1) := e1
  injection e0 with e0
  injection e1 with e1
  subst e0 e1
  exact ⟨q0, q1, rfl, u8_of_wf w0, u8_of_wf w1⟩
/-- Rows of ints, as lists. -/
theorem rows_RN {m : Nat} {A : Option Addr} {len cap : Nat} (hl : len ≤ maxLen)
    (h : len = 0 ∨ ∃ b off, A = some ⟨b, off, none⟩ ∧ ∀ i, i < len → ∀ j, j < m → ∃ n, W.cell? ⟨b, off + i * m + j, none⟩ = some (.int .i64 n) ∧ (Lit.int .i64 n).wf = true) : ∃ ls, RN m W (.slice A len cap) ls := by
  unfold maxLen at hl
  rcases h with rfl | ⟨b, off, rfl, h⟩
  · exact ⟨[], A, cap, rfl, by simp, by simp, .inl rfl⟩
  · let F : Nat → Nat → Int := fun i j => iof ((W.cell? ⟨b, off + i * m + j, none⟩).getD undef)
    have hF : ∀ i, i < len → ∀ j, j < m → W.cell? ⟨b, off + i * m + j, none⟩ = some (.int .i64 (F i j)) ∧ OkI (F i j) := fun i hi j hj => by
      obtain ⟨n, h1, h2⟩ := h i hi j hj
      have : F i j = n := by show iof ((W.cell? ⟨b, off + i * m + j, none⟩).getD undef) = n; rw [h1]; rfl
      rw [this]
      exact ⟨h1, i64_of_wf h2⟩
    refine ⟨(List.range len).map fun i => (List.range m).map (F i), some ⟨b, off, none⟩, cap, by simp, by simp; omega, fun z hz => ?_, .inr ⟨b, off, rfl, fun k hk j hj => ?_⟩⟩
    · obtain ⟨i, hi, rfl⟩ := List.mem_map.1 hz
      refine ⟨by simp, fun x hx => ?_⟩
      obtain ⟨j, hj, rfl⟩ := List.mem_map.1 hx
      exact (hF i (List.mem_range.1 hi) j (List.mem_range.1 hj)).2
    · have hk' : k < len := by simpa using hk
      rw [(hF k hk' j hj).1]
      simp [List.getD_eq_getElem?_getD, List.getElem?_map, List.getElem?_range hj]
/-- A struct of ints. -/
theorem struct_ints {t : TypeId} {fs : Array Field} {m : Nat} {fuel : Nat} {cs : List Value} {x : DataW H × List MemPlace} (ht : Try.prog.underlying t = some (.struct fs)) (hct : Try.prog.cellsOf t = m) (hm : fs.size = m)
    (hf : ∀ j, j < m → ∃ f, fs[j]? = some f ∧ f.type = 3 ∧ f.offset = j)
    (h : DataW.trod enc Try.prog W 0 (fun _ => true) true fuel t cs = some x) : cs.length = m ∧ ∀ i, i < m → ∃ n, cs[i]? = some (.int .i64 n) ∧ (Lit.int .i64 n).wf = true := by
  obtain ⟨xs, n, -, -, hl, hx, hg⟩ := DataW.trod_struct ht h
  rw [hct] at hl
  refine ⟨hl, fun i hi => ?_⟩
  obtain ⟨f, hfi, h1, h2⟩ := hf i hi
  have h3 := hg i f hfi
  have hxi : i < xs.length := by rw [hx, hm]; exact hi
  rw [List.getElem?_eq_getElem hxi, h1, h2, kk3] at h3
  obtain ⟨z, e1, -, e2⟩ := DataW.trod_int Try.underlying3 h3
  have hic : i < cs.length := by omega
  rw [List.drop_eq_getElem_cons hic, List.take_succ_cons, List.take_zero] at e1
  simp only [List.cons.injEq, and_true] at e1
  exact ⟨z, by rw [List.getElem?_eq_getElem hic, e1], e2⟩
theorem slice_srows {t e : TypeId} {fs : Array Field} {m : Nat} {fuel : Nat} {cs : List Value} {x : DataW H × List MemPlace} (ht : Try.prog.underlying t = some (.slice e)) (hte : Try.prog.underlying e = some (.struct fs)) (hct : Try.prog.cellsOf e = m) (hfs : fs.size = m)
    (hf : ∀ j, j < m → ∃ f, fs[j]? = some f ∧ f.type = 3 ∧ f.offset = j) (hm : 0 < m)
    (h : DataW.trod enc Try.prog W 0 (fun _ => true) true fuel t cs = some x) :
    ∃ A len cap, cs = [.slice A len cap] ∧ len ≤ maxLen ∧ (len = 0 ∨ ∃ b off, A = some ⟨b, off, none⟩ ∧ ∀ i, i < len → ∀ j, j < m → ∃ n, W.cell? ⟨b, off + i * m + j, none⟩ = some (.int .i64 n) ∧ (Lit.int .i64 n).wf = true) := by
  rcases DataW.trod_slice ht h with ⟨rfl, -⟩ | ⟨a, len, cap, elems, rest, n, -, rfl, -, -, hl, hmx, hlen, hel, -, -⟩
  · exact ⟨none, 0, 0, rfl, Nat.zero_le _, .inl rfl⟩
  · refine ⟨some a, len, cap, rfl, by omega, ?_⟩
    rcases Nat.eq_zero_or_pos len with h0 | h0
    · exact .inl h0
    · have key : ∀ i, i < len → ∀ j, j < m → ∃ z, W.cell? ((a.add (i * m)).add j) = some (.int .i64 z) ∧ (Lit.int .i64 z).wf = true := by
        intro i hi j hj
        have h1 := hel i hi
        rw [List.getElem?_eq_getElem (by omega)] at h1
        obtain ⟨ecs, h2, h3⟩ := Option.bind_eq_some_iff.1 h1
        obtain ⟨h4, h5⟩ := struct_ints hte hct hfs hf h3
        obtain ⟨z, h6, h7⟩ := h5 j hj
        have := (World.cells?_some h2).2.2 j (by rw [hct]; exact hj)
        rw [hct] at this
        exact ⟨z, by rw [this, h6], h7⟩
      obtain ⟨b, off, spot⟩ := a
      obtain ⟨z0, hz0, -⟩ := key 0 h0 0 hm
      have hspot : spot = none := by simpa [Addr.add] using World.cell?_spot hz0
      subst hspot
      refine .inr ⟨b, off, rfl, fun i hi j hj => ?_⟩
      obtain ⟨z, h1, h2⟩ := key i hi j hj
      exact ⟨z, by simpa [Go.WideShapes.add_plain] using h1, h2⟩
theorem ird_of_trod {t : TypeId} (ht : Try.prog.underlying t = some (.slice 3)) {fuel : Nat} {cs : List Value} {x : DataW H × List MemPlace} (h : DataW.trod enc Try.prog W 0 (fun _ => true) true fuel t cs = some x) : ∃ v ls, cs = [v] ∧ IRd W v ls := by
  rcases open_ints ht Try.underlying3 kk3 h with ⟨rfl, -⟩ | ⟨a, len, cap, zs, rfl, -, hl, hm, hz, -, hc, hw⟩
  · exact ⟨_, [], rfl, none, 0, rfl, by simp, by simp, .inl rfl⟩
  · have hlen : (zs.take len).length = len := by rw [List.length_take, hz]; simp; omega
    unfold maxLen at hm
    refine ⟨_, zs.take len, rfl, some a, cap, by rw [hlen], by rw [hlen]; omega, fun z hz => i64_of_wf (hw z (List.mem_of_mem_take hz)), ?_⟩
    rcases Nat.eq_zero_or_pos len with rfl | hpos
    · exact .inl rfl
    · have hzl : len ≤ zs.length := by rw [hz]; simp; omega
      obtain ⟨b, off, rfl, hcell⟩ := ints_at hc (by omega)
      refine .inr ⟨b, off, rfl, fun k hk => ?_⟩
      rw [hlen] at hk
      rw [hcell k (by omega), List.getElem_take, List.getD_eq_getElem?_getD, List.getElem?_eq_getElem (by omega)]
      rfl
theorem open_IRd {r : Go.Reach} {b0 : Nat} {v : Value} {d : DataW H} {ps : List MemPlace} (hval : Value.okWide Try.prog W r b0 36 v) (hd : DataW.Trod enc Try.prog W 0 (fun _ => true) true 36 v d ps) : ∃ ls, IRd W v ls := by
  obtain ⟨fuel, hf⟩ := hd
  obtain ⟨a, l, c, rfl⟩ := okWide_slice Try.underlying36 hval
  obtain ⟨v, ls, hcs, hr⟩ := ird_of_trod Try.underlying36 hf
  simp [Value.cells] at hcs
  subst hcs
  exact ⟨ls, hr⟩
/-- The acts. -/
theorem open_acts {r : Go.Reach} {b0 : Nat} {v : Value} {d : DataW H} {ps : List MemPlace} (hval : Value.okWide Try.prog W r b0 22 v) (hd : DataW.Trod enc Try.prog W 0 (fun _ => true) true 22 v d ps) : ∃ ls, RN 4 W v ls := by
  obtain ⟨fuel, hf⟩ := hd
  obtain ⟨a, l, c, rfl⟩ := okWide_slice Try.underlying22 hval
  obtain ⟨A, len, cap, e, h1, h2⟩ := slice_srows (m := 4) Try.underlying22 Try.underlying46 kk46 rfl (fun j hj => by
    match j, hj with
    | 0, _ => exact ⟨_, rfl, rfl, rfl⟩
    | 1, _ => exact ⟨_, rfl, rfl, rfl⟩
    | 2, _ => exact ⟨_, rfl, rfl, rfl⟩
    | 3, _ => exact ⟨_, rfl, rfl, rfl⟩) (by decide) hf
  simp [Value.cells] at e
  obtain ⟨rfl, rfl, rfl⟩ := e
  exact rows_RN h1 h2
end
end Go.Proofs.Ytbeoihjfjkbfhaa
