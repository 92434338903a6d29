/-
  Formulas: the trees that values of the struct type stand for, and how memory holds them.
-/
import Derived.Test.YtgkdeknfmmgbdaaEvB
namespace Go.Proofs.Ytgkdeknfmmgbdaa
set_option linter.unusedVariables false
set_option linter.unusedSimpArgs false
open Go.RowKit

inductive Ex
  | mk (op : ByteArray) (num : Int × Int) (name : ByteArray) (args : List Ex)

def cellsE (w : World) (b k : Nat) (c : Nat → Value) : Prop := ∀ j, j < 5 → w.cell? ⟨b, k * 5 + j, none⟩ = some (c j)
def aggE (c : Nat → Value) : Value := .agg #[c 0, c 1, c 2, c 3, c 4]

mutual
/-- The value v, in the world w, stands for the tree; the blocks that hold its parts are among S. -/
def Rd (S : Nat → Prop) (w : World) : Ex → Value → Prop
  | .mk op n nm args, v => ∃ base cap, v = .agg #[.string op, .int .i64 n.1, .int .i64 n.2, .string nm, .slice base args.length cap] ∧ I2 n ∧ args.length ≤ 1000000 ∧ (args = [] ∨ ∃ b, base = some ⟨b, 0, none⟩ ∧ S b ∧ RdL S w b 0 args)
def RdL (S : Nat → Prop) (w : World) (b : Nat) : Nat → List Ex → Prop
  | _, [] => True
  | k, t :: ts => (∃ c, cellsE w b k c ∧ Rd S w t (aggE c)) ∧ RdL S w b (k + 1) ts
end

mutual
theorem Rd.frame {S S' : Nat → Prop} {w w' : World} (h : ∀ b o, S b → b < w.heap.size → w'.cell? ⟨b, o, none⟩ = w.cell? ⟨b, o, none⟩) (hS : ∀ b, S b → S' b) : ∀ (t : Ex) (v : Value), Rd S w t v → Rd S' w' t v
  | .mk op n nm args, v, r => by
    unfold Rd at r ⊢
    obtain ⟨base, cap, hv, hn, hn2, hr⟩ := r
    refine ⟨base, cap, hv, hn, hn2, hr.imp id fun ⟨b, hb, hs, hl⟩ => ⟨b, hb, hS b hs, RdL.frame h hS b hs args 0 hl⟩⟩
theorem RdL.frame {S S' : Nat → Prop} {w w' : World} (h : ∀ b o, S b → b < w.heap.size → w'.cell? ⟨b, o, none⟩ = w.cell? ⟨b, o, none⟩) (hS : ∀ b, S b → S' b) (b : Nat) (hs : S b) : ∀ (ts : List Ex) (k : Nat), RdL S w b k ts → RdL S' w' b k ts
  | [], _, _ => by unfold RdL; trivial
  | t :: ts, k, r => by
    unfold RdL at r ⊢
    obtain ⟨⟨c, hc, hr⟩, hl⟩ := r
    exact ⟨⟨c, fun j hj => (h b _ hs (World.block_lt_of_cell? w _ (hc j hj))).trans (hc j hj), Rd.frame h hS t _ hr⟩, RdL.frame h hS b hs ts (k + 1) hl⟩
end

theorem Rd.ext {S : Nat → Prop} {w w' : World} (e : Ext w w') {t : Ex} {v : Value} (r : Rd S w t v) : Rd S w' t v :=
  Rd.frame (fun b o _ hb => e.cells.1 b o hb) (fun _ h => h) t v r

theorem RdL.get {S : Nat → Prop} {w : World} {b : Nat} : ∀ {ts : List Ex} {k : Nat}, RdL S w b k ts → ∀ (i : Nat) (h : i < ts.length), ∃ c, cellsE w b (k + i) c ∧ Rd S w ts[i] (aggE c)
  | t :: ts, k, r, 0, _ => by
    unfold RdL at r
    exact r.1
  | t :: ts, k, r, i + 1, h => by
    unfold RdL at r
    obtain ⟨c, h1, h2⟩ := RdL.get r.2 i (by simpa using h)
    exact ⟨c, by rw [show k + (i + 1) = k + 1 + i by omega]; exact h1, h2⟩

mutual
def Ex.parts : Ex → Nat
  | .mk _ _ _ args => 1 + Ex.partsL args
def Ex.partsL : List Ex → Nat
  | [] => 0
  | t :: ts => t.parts + Ex.partsL ts
end
mutual
def Ex.depth : Ex → Nat
  | .mk _ _ _ args => 1 + Ex.depthL args
def Ex.depthL : List Ex → Nat
  | [] => 0
  | t :: ts => max t.depth (Ex.depthL ts)
end

end Go.Proofs.Ytgkdeknfmmgbdaa
