/-
  Package eval: Eval's deferred closure. Conditions: the two variables of the caller's lie in memory.
-/
import Derived.Test.YtgkdeknfmmgbdaaEvY
import Derived.Defers
import Derived.Recover
import Derived.Laws.Pointers
namespace Go.Proofs.Ytgkdeknfmmgbdaa
set_option linter.unusedVariables false
set_option linter.unusedSimpArgs false
open Go.RowKit

theorem catch_idle (p q : Nat) (w : World) :
    CallsD Try.prog 44 #[.pointer (some ⟨p, 0, none⟩), .pointer (some ⟨q, 0, none⟩)] .returning w fun e u' w' => e = .returned (.tuple #[]) ∧ u' = .returning ∧ w' = w := by
  refine callsD_of_wpS Try.func44 rfl fun c₀ cs hu => ?_
  apply wpS_seq
  apply wpS_region
  simp [wpOpsS, go_sem, recoverD, hu, Try.ntmps44, Exit.thenS]
  refine wpS_of_wp ?_
  go_wp2
  cases c₀
  simp_all [bodyPostS, results, Try.results44]

theorem frame14 (a b v : Value) : (#[a, b] ++ (Array.replicate 12 undef).setIfInBounds 3 v : Array Value) = #[a, b, undef, undef, undef, v, undef, undef, undef, undef, undef, undef, undef, undef] := rfl

theorem assert91 (f : Int) (w : World) : (Instr.typeAssert (.iface 91 (.agg #[.int .i64 f])) 20 91 true).run Try.prog w = .ok (.tuple #[.agg #[.int .i64 f], .bool true]) w := by kernel_rfl

set_option maxRecDepth 100000 in
theorem catch_panic (B p q : Nat) (f a b c : Int) (older : List PanicEntry) (w : World) (h0 : w.cell? ⟨p, 0, none⟩ = some (.int .i64 a)) (h1 : w.cell? ⟨p, 1, none⟩ = some (.int .i64 b)) (h2 : w.cell? ⟨q, 0, none⟩ = some (.int .i64 c))
   (f0 : w.frozen? ⟨p, 0, none⟩ = false) (f1 : w.frozen? ⟨p, 1, none⟩ = false) (f2 : w.frozen? ⟨q, 0, none⟩ = false) (hpq : ¬ p = q) (hp : B ≤ p) (hq : B ≤ q) (hB : B ≤ w.heap.size) :
    CallsD Try.prog 44 #[.pointer (some ⟨p, 0, none⟩), .pointer (some ⟨q, 0, none⟩)] (.panicking ({ v := .iface 91 (.agg #[.int .i64 f]), recovered := false } :: older)) w fun e u' w' => e = .returned (.tuple #[]) ∧ u' = .panicking ({ v := .iface 91 (.agg #[.int .i64 f]), recovered := true } :: older) ∧
      w'.cell? ⟨p, 0, none⟩ = some (.int .i64 0) ∧ w'.cell? ⟨p, 1, none⟩ = some (.int .i64 0) ∧ w'.cell? ⟨q, 0, none⟩ = some (.int .i64 f) ∧ Below B w w' := by
  refine callsD_of_wpS Try.func44 rfl fun c₀ cs hu => ?_
  apply wpS_seq
  apply wpS_region
  simp [wpOpsS, go_sem, recoverD, hu, Try.ntmps44, Exit.thenS]
  refine wpS_of_wp ?_
  rw [frame14]
  have hta := assert91 f
  have np : ¬ p = w.heap.size := by have := World.block_lt_of_cell? w _ h0; simp at this; omega
  have nq : ¬ q = w.heap.size := by have := World.block_lt_of_cell? w _ h2; simp at this; omega
  have np' : ¬ w.heap.size = p := by omega
  have nq' : ¬ w.heap.size = q := by omega
  go_wp2
  have e0 : Below B w (w.alloc (Obj.cells #[.int .i64 f] 91)) := (Below.refl _ _).alloc hB _
  have hc := (Ext.alloc (Ext.refl w) (Obj.cells #[.int .i64 f] 91)).cells
  have pl : p < w.heap.size := World.block_lt_of_cell? w _ h0
  have ql : q < w.heap.size := World.block_lt_of_cell? w _ h2
  have k0 := (hc.1 _ _ pl).trans h0
  have k1 := (hc.1 _ _ pl).trans h1
  have k2 := (hc.1 _ _ ql).trans h2
  have m0 := (hc.2 _ _ pl).trans f0
  have m1 := (hc.2 _ _ pl).trans f1
  have m2 := (hc.2 _ _ ql).trans f2
  have k3 : (w.alloc (Obj.cells #[.int .i64 f] 91)).cell? ⟨w.heap.size, 0, none⟩ = some (.int .i64 f) := by simp [go_sem]
  clear hc pl ql hB h0 h1 h2 f0 f1 f2
  generalize w.alloc (Obj.cells #[.int .i64 f] 91) = W at *
  generalize w.heap.size = r at *
  have qp : ¬ q = p := fun e => hpq e.symm
  go_region
  cases c₀
  simp only at hu
  subst hu
  refine ⟨rfl, _, rfl, _, results_none rfl _ _ _, rfl, rfl, ?_, ?_, ?_, (((e0.setCell (p := ⟨p, 0, none⟩) hp _).setCell (p := ⟨p, 1, none⟩) hp _).setCell (p := ⟨q, 0, none⟩) hq _).drew⟩
  · go_simp
  · go_simp
  · go_simp
end Go.Proofs.Ytgkdeknfmmgbdaa
