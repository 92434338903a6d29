/-
  Waiting, Ask. Condition: a relay lies at p.
-/
import Derived.Test.YtbeoihjfjkbfhaaReA
namespace Go.Proofs.Ytbeoihjfjkbfhaa
set_option linter.unusedVariables false
set_option linter.unusedSimpArgs false
open Go.RowKit
theorem len_nil (t : TypeId) (k e : TypeId) (ht : Try.prog.underlying t = some (.map k e)) (ty : TypeId) (w : World) : (Builtin.len_ #[t] ty #[.map none]).run Try.prog w = .ok (.int .i64 0) w := by
  simp [Builtin.len_, run_underlying ht, goInt, Result.andThen]
theorem under54 : Try.prog.underlying 54 = some (.map 66 3) := Try.underlying54
theorem len_mq {B : Nat} {w : World} {mb : Option Nat} {l : List (Qn × Int)} (h : MQ B w mb l) (ty : TypeId) : (Builtin.len_ #[54] ty #[.map mb]).run Try.prog w = .ok (.int .i64 (l.length : Nat)) w := by
  cases mb with
  | none =>
    rw [show l = [] from h]
    exact len_nil 54 66 3 under54 ty w
  | some b =>
    have := MP.len h.2 under54 ty
    rw [mapL_len] at this
    exact this
theorem waiting_any {B : Nat} (p : Nat) (mb : Option Nat) (r : Rl) (w : World) (h : RW B w p mb r) :
    Calls Try.prog 22 #[.pointer (some ⟨p, 0, none⟩)] w fun e w' => e = .returned (.int .i64 (r.l.length : Nat)) ∧ w' = w := by
  obtain ⟨-, -, c2, -, -, -⟩ := Rl.cells_at h.row
  have hl := len_mq h.map 3
  generalize r.l.length = n at *
  clear h
  go_enter Try.func22, Try.ntmps22
  go_wp2
  go_ret
  exact ⟨rfl, rfl⟩
theorem waiting_nil (w : World) : Calls Try.prog 22 #[.pointer none] w fun e w' => e = .returned (.int .i64 0) ∧ w' = w := by
  go_enter Try.func22, Try.ntmps22
  go_wp2
  go_ret
  exact ⟨rfl, rfl⟩
def askF (r : Rl) (q : Qn) (t : Int) : Int × Rl :=
  if q.text.size = 0 ∨ 4000 < q.text.size then (1, r)
  else if r.closed = true then (31, r)
  else if r.timed = true ∧ t < r.last then (32, r)
  else if q ∈ r.l.map (·.1) then (33, r)
  else if 1000 ≤ r.l.length then (2, r)
  else (0, { r with last := t, timed := true, l := r.l ++ [(q, perF r.every t)] })
set_option maxRecDepth 100000 in
set_option maxHeartbeats 2000000 in
theorem ask_nil (who t : Int) (text : ByteArray) (w : World) :
    Calls Try.prog 20 #[.pointer none, .int .i64 who, .int .i64 t, .string text] w fun e w' => e = .returned (.int .i64 1) ∧ Ext w w' := by
  go_enter Try.func20, Try.ntmps20
  go_wp2
  go_ret
  exact ⟨rfl, Ext.alloc (Ext.refl _) _⟩
theorem txt_ne {s : ByteArray} (h : ¬ s.size = 0) : ¬ s.toList = [] ∧ s.toList.isEmpty = false := by
  have h1 : ¬ s.toList = [] := by
    rw [ByteArray.toList_eq]
    intro e
    have := congrArg List.length e
    exact h (by simpa using this)
  exact ⟨h1, by simpa using h1⟩
theorem txt_empty {s : ByteArray} (h : s.size = 0) : s = ⟨#[]⟩ := ByteArray.ext (Array.eq_empty_of_size_eq_zero h)
set_option maxRecDepth 100000 in
set_option maxHeartbeats 2000000 in
theorem ask_bad (p : Nat) (who t : Int) (text : ByteArray) (w : World) (hq : text.size = 0 ∨ 4000 < text.size) :
    Calls Try.prog 20 #[.pointer (some ⟨p, 0, none⟩), .int .i64 who, .int .i64 t, .string text] w fun e w' => e = .returned (.int .i64 1) ∧ Ext w w' := by
  by_cases h0 : text.size = 0
  · obtain rfl := txt_empty h0
    clear h0 hq
    go_enter Try.func20, Try.ntmps20
    go_wp2
    go_ret
    exact ⟨rfl, Ext.alloc (Ext.refl _) _⟩
  · have hq := hq.resolve_left h0
    obtain ⟨hte, hti⟩ := txt_ne h0
    have h4 : (4000 : Int) < text.size := by omega
    go_enter Try.func20, Try.ntmps20
    go_wp2
    go_ret
    exact ⟨rfl, Ext.alloc (Ext.refl _) _⟩
/-- What a look-up gives besides. -/
def valQ (l : List (Qn × Int)) (q : Qn) : Int := match (mapL l).lookup q with
  | some (.int _ z) => z
  | _ => 0
theorem look_mq {B : Nat} {w : World} {mb : Option Nat} {l : List (Qn × Int)} (h : MQ B w mb l) {q : Qn} (hq : OkQ q) :
    (Instr.lookup 54 (.map mb) (encQ q) true).run Try.prog w = .ok (.tuple #[.int .i64 (valQ l q), .bool (decide (q ∈ l.map (·.1)))]) w := by
  have hz : (zeroValue 3).run Try.prog w = .ok (.int .i64 0) w := Try.zeroValue3 w
  cases mb with
  | none =>
    rw [show l = [] from h]
    have h1 := look_nil keQ under54 hz hq true
    rw [h1]
    rfl
  | some b =>
    have h1 := MP.look keQ under54 hz h.2 hq true
    rw [h1]
    simp only [if_true]
    rw [← mapL_keys]
    unfold valQ
    cases hl : (mapL l).lookup q with
    | none =>
      have := lookup_none.1 hl
      simp only [Option.getD_none, Option.isSome_none, decide_eq_false this]
    | some v =>
      have h2 := lookup_mem hl
      obtain ⟨⟨q', z⟩, hm, he⟩ := List.mem_map.1 h2
      simp only [Prod.mk.injEq] at he
      have h3 : q ∈ (mapL l).map (·.1) := List.mem_map.2 ⟨_, h2, rfl⟩
      rw [← he.2]
      simp only [Option.getD_some, Option.isSome_some, decide_eq_true h3]
set_option maxRecDepth 100000 in
set_option maxHeartbeats 4000000 in
theorem ask_closed {B : Nat} (p : Nat) (mb : Option Nat) (r : Rl) (q : Qn) (t : Int) (w : World) (h : RW B w p mb r) (hs : ¬ q.text.size = 0) (hs4 : q.text.size ≤ 4000) (hc : r.closed = true) :
    Calls Try.prog 20 #[.pointer (some ⟨p, 0, none⟩), .int .i64 q.who, .int .i64 t, .string q.text] w fun e w' => e = .returned (.int .i64 31) ∧ Ext w w' := by
  obtain ⟨who, text⟩ := q
  simp only at *
  obtain ⟨hte, hti⟩ := txt_ne hs
  have h4 : ¬ (4000 : Int) < text.size := by omega
  have hx := Ext.alloc (Ext.refl w) (.cells #[.int .i64 who, .string text] 66)
  obtain ⟨-, -, -, -, -, c5⟩ := Rl.cells_at (h.ext hx).row
  rw [hc] at c5
  have hpl : p < (w.alloc (.cells #[.int .i64 who, .string text] 66)).heap.size := (h.ext hx).lt
  clear hc h
  go_enter Try.func20, Try.ntmps20
  go_wp2
  go_ret
  exact ⟨rfl, hx⟩
set_option maxRecDepth 100000 in
set_option maxHeartbeats 4000000 in
theorem ask_old {B : Nat} (p : Nat) (mb : Option Nat) (r : Rl) (q : Qn) (t : Int) (w : World) (h : RW B w p mb r) (hs : ¬ q.text.size = 0) (hs4 : q.text.size ≤ 4000) (hc : r.closed = false) (ho : r.timed = true ∧ t < r.last) :
    Calls Try.prog 20 #[.pointer (some ⟨p, 0, none⟩), .int .i64 q.who, .int .i64 t, .string q.text] w fun e w' => e = .returned (.int .i64 32) ∧ Ext w w' := by
  obtain ⟨who, text⟩ := q
  simp only at *
  obtain ⟨hte, hti⟩ := txt_ne hs
  have h4 : ¬ (4000 : Int) < text.size := by omega
  have hx := Ext.alloc (Ext.refl w) (.cells #[.int .i64 who, .string text] 66)
  obtain ⟨-, -, -, -, -, c5⟩ := Rl.cells_at (h.ext hx).row
  rw [hc] at c5
  have hO := old_any p mb r t _ (h.ext hx).row
  rw [show (r.timed && decide (t < r.last)) = true by simp [ho.1, ho.2]] at hO
  clear hc h ho
  go_enter Try.func20, Try.ntmps20
  go_wp2_with (go_at_call 26; (with_reducible refine hO.mono ?_); rintro e w1 ⟨rfl, rfl⟩)
  go_ret
  exact ⟨rfl, hx⟩
end Go.Proofs.Ytbeoihjfjkbfhaa
