/-
  What makes formulas: num, name, op. Conditions: the parts stand for trees.
-/
import Derived.Test.YtgkdeknfmmgbdaaEvS
namespace Go.Proofs.Ytgkdeknfmmgbdaa
set_option linter.unusedVariables false
set_option linter.unusedSimpArgs false
open Go.RowKit

abbrev numB : ByteArray := ⟨#[110, 117, 109]⟩
abbrev nameB : ByteArray := ⟨#[110, 97, 109, 101]⟩
abbrev nilB : ByteArray := ⟨#[]⟩
abbrev leaf (op : ByteArray) (n : Int × Int) (nm : ByteArray) : Ex := .mk op n nm []
abbrev leafV (op : ByteArray) (n : Int × Int) (nm : ByteArray) : Value := .agg #[.string op, .int .i64 n.1, .int .i64 n.2, .string nm, .slice none 0 0]
abbrev numE (n : Int × Int) : Ex := leaf numB n nilB
abbrev nameE (nm : ByteArray) : Ex := leaf nameB (0, 0) nm

theorem I2.zero : I2 (0, 0) := ⟨by decide, by decide, by decide, by decide⟩
theorem I2.int {n : Int} (h1 : -9223372036854775808 ≤ n) (h2 : n ≤ 9223372036854775807) : I2 (n, 1) := ⟨h1, h2, by show (-9223372036854775808 : Int) ≤ 1; decide, by show (1 : Int) ≤ 9223372036854775807; decide⟩
theorem Rd.leaf {S : Nat → Prop} {w : World} {op : ByteArray} {n : Int × Int} {nm : ByteArray} (h : I2 n) : Rd S w (leaf op n nm) (leafV op n nm) := by
  unfold Rd
  exact ⟨none, 0, rfl, h, by simp, .inl rfl⟩

theorem num_any (n : Int) (w : World) : Calls Try.prog 31 #[.int .i64 n] w fun e w' => e = .returned (leafV numB (n, 1) nilB) ∧ Ext w w' := by
  go_enter Try.func31, Try.ntmps31
  go_wp2
  exact bodyPost_ret (v := leafV numB (n, 1) nilB) (by simp [results, Try.results31, go_sem]) rfl ⟨rfl, (by with_reducible repeat (first | exact Ext.refl _ | assumption | apply Ext.drewN | apply Ext.drew | apply Ext.alloc | (refine Ext.setCell ?_ (by simp <;> omega) _) | (refine Ext.trans ?_ (by assumption))))⟩
theorem name_any (nm : ByteArray) (w : World) : Calls Try.prog 30 #[.string nm] w fun e w' => e = .returned (leafV nameB (0, 0) nm) ∧ Ext w w' := by
  go_enter Try.func30, Try.ntmps30
  go_wp2
  exact bodyPost_ret (v := leafV nameB (0, 0) nm) (by simp [results, Try.results30, go_sem]) rfl ⟨rfl, (by with_reducible repeat (first | exact Ext.refl _ | assumption | apply Ext.drewN | apply Ext.drew | apply Ext.alloc | (refine Ext.setCell ?_ (by simp <;> omega) _) | (refine Ext.trans ?_ (by assumption))))⟩

theorem block_new {w : World} {o : Obj} {n : Nat} (h : w.heap.size = n) : (w.alloc o).heap[n]? = some o := by
  rw [← h]; exact heap_alloc_new w o

set_option maxRecDepth 100000 in
set_option maxHeartbeats 1000000 in
theorem op_walk (s : ByteArray) (a0 a1 a2 a3 a4 b0 b1 b2 b3 b4 : Value) (w : World) : Calls Try.prog 24 #[.string s, .agg #[a0, a1, a2, a3, a4], .agg #[b0, b1, b2, b3, b4]] w fun e w' =>
    ∃ p, e = .returned (.agg #[.string s, .int .i64 0, .int .i64 0, .string nilB, .slice (some ⟨p, 0, none⟩) 2 2]) ∧ w.heap.size ≤ p ∧ w'.heap[p]? = some (.cells #[a0, a1, a2, a3, a4, b0, b1, b2, b3, b4] 29) ∧ Ext w w' := by
  go_enter Try.func24, Try.ntmps24
  go_wp2
  exact bodyPost_ret (v := .agg #[.string s, .int .i64 0, .int .i64 0, .string nilB, .slice (some ⟨w.heap.size + 1 + 1 + 1, 0, none⟩) 2 2]) (by simp [results, Try.results24, go_sem]) rfl ⟨_, rfl, by omega, block_new (by simp), (by with_reducible repeat (first | exact Ext.refl _ | assumption | apply Ext.drewN | apply Ext.drew | apply Ext.alloc | (refine Ext.setCell ?_ (by simp <;> omega) _) | (refine Ext.trans ?_ (by assumption))))⟩

def at5 (a0 a1 a2 a3 a4 : Value) : Nat → Value
  | 0 => a0 | 1 => a1 | 2 => a2 | 3 => a3 | _ => a4
theorem Rd.vals {S : Nat → Prop} {w : World} {t : Ex} {v : Value} (h : Rd S w t v) : ∃ a0 a1 a2 a3 a4, v = .agg #[a0, a1, a2, a3, a4] := by
  obtain ⟨op, n, nm, ts⟩ := t
  unfold Rd at h
  obtain ⟨base, cap, hv, -⟩ := h
  exact ⟨_, _, _, _, _, hv⟩
theorem cells10 {w : World} {p : Nat} {a0 a1 a2 a3 a4 b0 b1 b2 b3 b4 : Value} {t : TypeId} (h : w.heap[p]? = some (.cells #[a0, a1, a2, a3, a4, b0, b1, b2, b3, b4] t)) :
    cellsE w p 0 (at5 a0 a1 a2 a3 a4) ∧ cellsE w p 1 (at5 b0 b1 b2 b3 b4) := by
  constructor
  · intro j hj
    rw [cell_of_row w p _ _ _ _ h]
    match j, hj with
    | 0, _ => rfl
    | 1, _ => rfl
    | 2, _ => rfl
    | 3, _ => rfl
    | 4, _ => rfl
  · intro j hj
    rw [cell_of_row w p _ _ _ _ h]
    match j, hj with
    | 0, _ => rfl
    | 1, _ => rfl
    | 2, _ => rfl
    | 3, _ => rfl
    | 4, _ => rfl

theorem op_any (S : Nat → Prop) (s : ByteArray) (ta tb : Ex) (w : World) (va vb : Value) (ha : Rd S w ta va) (hb : Rd S w tb vb) (hS : ∀ b, w.heap.size ≤ b → S b) :
    Calls Try.prog 24 #[.string s, va, vb] w fun e w' => ∃ v, e = .returned v ∧ Ext w w' ∧ Rd S w' (.mk s (0, 0) nilB [ta, tb]) v := by
  obtain ⟨a0, a1, a2, a3, a4, rfl⟩ := ha.vals
  obtain ⟨b0, b1, b2, b3, b4, rfl⟩ := hb.vals
  refine (op_walk s a0 a1 a2 a3 a4 b0 b1 b2 b3 b4 w).mono ?_
  rintro e w' ⟨p, rfl, hp, hh, hx⟩
  refine ⟨_, rfl, hx, ?_⟩
  obtain ⟨h0, h1⟩ := cells10 hh
  unfold Rd
  refine ⟨_, _, rfl, I2.zero, by simp, .inr ⟨p, rfl, hS p hp, ?_⟩⟩
  unfold RdL
  refine ⟨⟨_, h0, ha.ext hx⟩, ?_⟩
  unfold RdL
  exact ⟨⟨_, h1, hb.ext hx⟩, by unfold RdL; trivial⟩
end Go.Proofs.Ytgkdeknfmmgbdaa
