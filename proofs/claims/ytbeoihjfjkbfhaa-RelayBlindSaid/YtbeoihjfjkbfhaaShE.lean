/-
  slices.Chunk of a row of bytes: its chunks come in order. Condition: the row has whole chunks.
-/
import Derived.RangeFuncBox
import Derived.RangeFuncLeaves
import Derived.RangeFuncNested
import Derived.RangeFuncBound
import Derived.RangeFuncCalls
import Derived.Shelf.Abstract
import Derived.OwnWalkIn
import Derived.TacticsInMore
import Derived.LoopNIn
import Derived.LoopIn
import Derived.Sort.BigQuietIn
import Derived.Sort.QuietIn
import Derived.Test.YtbeoihjfjkbfhaaShD
namespace Go.Proofs.Ytbeoihjfjkbfhaa
set_option linter.unusedVariables false
set_option linter.unusedSimpArgs false
open Go.RowKit Go.Shelf
attribute [local go_sem] Oper.semAt_some

/-- Nothing below n has turned but block q. -/
structure Bel (q n : Nat) (w w' : World) : Prop where
  os : w'.os = w.os
  tape : w'.tape = w.tape
  output : w'.output = w.output
  size : w.heap.size ≤ w'.heap.size
  block : ∀ k, k < n → k ≠ q → w'.heap[k]? = w.heap[k]?
theorem Bel.refl (q n : Nat) (w : World) : Bel q n w w := ⟨rfl, rfl, rfl, Nat.le_refl _, fun _ _ _ => rfl⟩
theorem Bel.trans {q n : Nat} {a b c : World} (h : Bel q n a b) (k : Bel q n b c) : Bel q n a c :=
  ⟨k.os.trans h.os, k.tape.trans h.tape, k.output.trans h.output, Nat.le_trans h.size k.size, fun i hi hq => (k.block i hi hq).trans (h.block i hi hq)⟩
theorem Bel.cell {q n : Nat} {w w' : World} (h : Bel q n w w') {p : Addr} (h1 : p.block < n) (h2 : p.block ≠ q) : w'.cell? p = w.cell? p := by
  unfold World.cell?
  rw [h.block _ h1 h2]
theorem Bel.of_bt {q n : Nat} {w w' : World} (h : Bt q w w') (hn : n ≤ w.heap.size) : Bel q n w w' := ⟨h.os, h.tape, h.output, h.size, fun k hk hq => h.block k (Nat.lt_of_lt_of_le hk hn) hq⟩
theorem Bel.put {q n : Nat} (W : World) (l : Nat) (o : Obj) (h : n ≤ l) : Bel q n W (W.putObj l o) := ⟨rfl, rfl, rfl, by simp [World.putObj], fun k hk _ => World.putObj_heap_other (by omega)⟩
theorem Bel.grown {q n : Nat} {a w w' : World} {row : Option Nat} (h : Bel q n a w) (hg : w.grownBy w' row) (hn : n ≤ w.heap.size) (hr : ∀ r, row = some r → n ≤ r) : Bel q n a w' :=
  ⟨hg.os.trans h.os, hg.tape.trans h.tape, hg.output.trans h.output, Nat.le_trans h.size hg.size, fun k hk hq => (hg.block k (Nat.lt_of_lt_of_le hk hn) (fun e => by have := hr k e.symm; omega)).trans (h.block k hk hq)⟩

set_option maxRecDepth 100000 in
set_option maxHeartbeats 2000000 in
theorem chunk1_in (F : Fence) (n : Nat) (hf : F.fn 66) (hro : F.round = none) (hn : 1 ≤ n) (l Bs Bn q n₀ b off c cap : Nat) (hsq : Bs ≠ q) (hnq : Bn ≠ q) (hreach : c ≤ 1000000) (hcap : 64 * c ≤ cap) (J Jx : List Nat → World → Prop)
    (hJd : ∀ pre W q, J pre W → J pre (W.drewN q))
    (hY : ∀ pre x W, J pre W → pre.length < c → YieldAt F (n - 1) Try.prog l #[.slice (some ⟨b, off + 64 * (x % c), none⟩) 64 64] W fun e W' =>
      (e = .returned (.bool true) ∧ J (pre ++ [x]) W' ∧ Bel q n₀ W W') ∨ (e = .returned (.bool false) ∧ Jx (pre ++ [x]) W'))
    (W : World) (hs0 : Bs < n₀) (hn0 : Bn < n₀) (hBs : W.cell? ⟨Bs, 0, none⟩ = some (.slice (some ⟨b, off, none⟩) (64 * c) cap)) (hBn : W.cell? ⟨Bn, 0, none⟩ = some (.int .i64 64)) (h0 : J [] W) :
    CallsIn F n Try.prog 66 #[.func (.yield l) #[] #[], .pointer (some ⟨Bs, 0, none⟩), .pointer (some ⟨Bn, 0, none⟩)] W fun e W' => (∃ v, e = .returned v) ∧
      ((∃ ys, ys = List.range c ∧ J ys W') ∨ (∃ pre, (∃ k, k ≤ c ∧ pre = List.range k) ∧ Jx pre W')) := by
  refine callsIn_of_wp Try.func66 rfl hf ?_ hro
  simp only [Try.ntmps66, List.size_toArray, List.length_cons, List.length_nil, Nat.reduceAdd, Nat.reduceSub, Array.replicate_succ, Array.replicate_zero, List.push_toArray, List.append_toArray, List.nil_append, List.cons_append]
  gi_wp2
  gi_loopw [4] (fun i wr => ∃ k : Nat, k ≤ c ∧ i = .int .i64 (64 * (k : Int)) ∧ J (List.range k) wr ∧ Bel q n₀ W wr)
    (fun i _ => 64 * c - (intOf i).toNat)
  case atStart => exact ⟨0, Nat.zero_le _, rfl, h0, Bel.refl _ _ _⟩
  case round =>
    obtain ⟨k, hk, rfl, hJs, hnx⟩ := hrel
    have cs := (hnx.cell (p := ⟨Bs, 0, none⟩) hs0 hsq).trans hBs
    have cn := (hnx.cell (p := ⟨Bn, 0, none⟩) hn0 hnq).trans hBn
    by_cases hlt : k < c
    · gi_wp2
      refine wpIn_region_quiet_lit hro (by kernel_rfl) (by kernel_rfl) ?_
      repeat (gi_big_quiet_step (fail))
      refine wpQuietIn_nil ?_
      intro _ hw'
      obtain ⟨nq, hw''⟩ := hw'
      subst hw''
      have hYk := hY _ k (wr.drewN nq) (hJd _ _ _ hJs) (by simpa using hlt)
      rw [Nat.mod_eq_of_lt hlt] at hYk
      obtain ⟨fn, tmps, assign, body, hy, hR⟩ := hYk
      gi_wp2
      refine hR.mono ?_
      rintro e W3 (⟨rfl, hJ3, hk3⟩ | ⟨rfl, hJx3⟩)
      · have hk4 : Bel q n₀ W W3 := (show Bel q n₀ W (wr.drewN nq) from ⟨hnx.os, hnx.tape, hnx.output, hnx.size, hnx.block⟩).trans hk3
        have cn3 := (hk4.cell (p := ⟨Bn, 0, none⟩) hn0 hnq).trans hBn
        gi_wp2
        go_roundw
        case rel => exact ⟨k + 1, by omega, by simp; omega, by rw [List.range_succ]; exact hJ3, hk4⟩
        case measure => simp [intOf]; omega
      · gi_wp2
        refine bodyPost_ret (results_none rfl _ _ _) rfl ?_
        exact ⟨⟨_, rfl⟩, .inr ⟨_, ⟨k + 1, by omega, (List.range_succ).symm⟩, hJx3⟩⟩
    · obtain rfl : k = c := by omega
      gi_wp2
      go_end0
      exact ⟨⟨_, rfl⟩, .inl ⟨_, rfl, hJs⟩⟩
/-- Chunks of 64 come in order. -/
theorem chunk_stops (F : Fence) (n : Nat) (hf : F.fn 66) (hro : F.round = none) (hn : 1 ≤ n) (Bs Bn q n₀ b off c cap : Nat) (hsq : Bs ≠ q) (hnq : Bn ≠ q) (hreach : c ≤ 1000000) (hcap : 64 * c ≤ cap) (w : World) (hs0 : Bs < n₀) (hn0 : Bn < n₀) (hw : n₀ ≤ w.heap.size)
    (hBs : w.cell? ⟨Bs, 0, none⟩ = some (.slice (some ⟨b, off, none⟩) (64 * c) cap)) (hBn : w.cell? ⟨Bn, 0, none⟩ = some (.int .i64 64)) :
    SeqStopsK F n Try.prog 66 #[.pointer (some ⟨Bs, 0, none⟩), .pointer (some ⟨Bn, 0, none⟩)] (fun x : Nat => #[.slice (some ⟨b, off + 64 * (x % c), none⟩) 64 64]) (Bel q n₀) (fun ys => ys = List.range c) (fun _ => True) c w := fun l J Jx W hW hJ _ hY h0 => by
  have c1 := (hW.cell (p := ⟨Bs, 0, none⟩) (by show Bs < _; omega)).trans hBs
  have c2 := (hW.cell (p := ⟨Bn, 0, none⟩) (by show Bn < _; omega)).trans hBn
  refine (chunk1_in F n hf hro hn l Bs Bn q n₀ b off c cap hsq hnq hreach hcap J Jx (fun pre W q h => hJ pre W _ none h ⟨rfl, rfl, rfl, Nat.le_refl _, fun _ _ _ => rfl⟩ (fun r e => by cases e)) hY W hs0 hn0 c1 c2 h0).mono ?_
  rintro e W' ⟨he, ⟨ys, rfl, hj⟩ | ⟨pre, ⟨k, hk, rfl⟩, hj⟩⟩
  · exact ⟨he, .inl ⟨_, rfl, hj⟩⟩
  · exact ⟨he, .inr ⟨_, trivial, hj⟩⟩
/-- slices.Chunk: its arguments are boxed. -/
theorem chunk_any (a : Option Addr) (len cap : Nat) (w : World) : Calls Try.prog 50 #[.slice a len cap, .int .i64 64] w fun e w' =>
    e = .returned (.func (.func 66) #[] #[.pointer (some ⟨w.heap.size, 0, none⟩), .pointer (some ⟨w.heap.size + 1, 0, none⟩)]) ∧ w' = (w.alloc (.cells #[.slice a len cap] 51)).alloc (.cells #[.int .i64 64] 3) := by
  go_enter Try.func50, Try.ntmps50
  go_wp2
  go_ret
  exact ⟨rfl, rfl⟩
end Go.Proofs.Ytbeoihjfjkbfhaa
