/-
  Package eval: Eval. Conditions: the values stand for a tree and for values of names.
-/
import Derived.Test.YtgkdeknfmmgbdaaEvR
namespace Go.Proofs.Ytgkdeknfmmgbdaa
set_option linter.unusedVariables false
set_option linter.unusedSimpArgs false
open Go.RowKit

def evalI (vs : Vals) (t : Ex) : (Int × Int) × Int :=
  if wrongI t = 0 then (match valueE vs t with | .ok x => (x, 0) | .error f => ((0, 0), f)) else ((0, 0), wrongI t)

set_option maxRecDepth 100000 in
set_option maxHeartbeats 1000000 in
theorem eval_wrong (S : Nat → Prop) (vs : Vals) (t : Ex) (h : ¬ wrongI t = 0) (w : World) (v sl : Value) (hv : Rd S w t v) :
    Calls Try.prog 17 #[v, sl] w fun e w' => e = .returned (rev ((0, 0), wrongI t)) ∧ Ext w w' := by
  have HW := Lib.hid (fun w' (hw : Ext w w') => wrong_any S t w' v (Rd.ext hw hv))
  have hsh : ∃ op n1 n2 nm base len cap, v = .agg #[.string op, .int .i64 n1, .int .i64 n2, .string nm, .slice base len cap] := by
    obtain ⟨op, n, nm, ts⟩ := t
    unfold Rd at hv
    obtain ⟨base, cap, hv, -⟩ := hv
    exact ⟨_, _, _, _, _, _, _, hv⟩
  obtain ⟨op, n1, n2, nm, base, len, cap, rfl⟩ := hsh
  clear hv
  generalize wrongI t = k at *
  go_enter_defers Try.func17, Try.ntmps17
  go_wp2_with (go_at_call 43; (with_reducible refine (HW.out _ (by with_reducible repeat (first | exact Ext.refl _ | assumption | apply Ext.drewN | apply Ext.drew | apply Ext.alloc | (refine Ext.setCell ?_ (by simp <;> omega) _) | (refine Ext.trans ?_ (by assumption))))).mono ?_); rintro e w1 ⟨rfl, hb⟩; obtain ⟨hc, hf⟩ := hb.cells; have hz := hb.size; simp at hz; have z1 : w.heap.size < w1.heap.size := (by omega); have z2 : w.heap.size + 1 < w1.heap.size := (by omega); have z3 : w.heap.size + 1 + 1 < w1.heap.size := (by omega))
  have g1 : w1.cell? ⟨w.heap.size + 1, 0, none⟩ = some (.int .i64 0) := by go_simp
  have g2 : w1.cell? ⟨w.heap.size + 1, 1, none⟩ = some (.int .i64 0) := by go_simp
  have g3 : w1.cell? ⟨w.heap.size + 1 + 1, 0, none⟩ = some (.int .i64 0) := by go_simp
  exact ⟨rev ((0, 0), k), by simp [results, Try.results17, go_sem, g1, g2, g3], rfl, (by with_reducible repeat (first | exact Ext.refl _ | assumption | apply Ext.drewN | apply Ext.drew | apply Ext.alloc | (refine Ext.setCell ?_ (by simp <;> omega) _) | (refine Ext.trans ?_ (by assumption))))⟩

set_option maxRecDepth 100000 in
set_option maxHeartbeats 1000000 in
theorem eval_ok (S : Nat → Prop) (vs : Vals) (t : Ex) (h : wrongI t = 0) (w : World) (v sl : Value) (hv : Rd S w t v) (hs : VRd S w vs sl) (x : Int × Int) (hx : valueE vs t = .ok x) :
    Calls Try.prog 17 #[v, sl] w fun e w' => e = .returned (rev (x, 0)) ∧ Ext w w' := by
  have HW := Lib.hid (fun w' (hw : Ext w w') => wrong_any S t w' v (Rd.ext hw hv))
  have hd : t.depth ≤ 12 ∧ formedB t = true := by
    unfold wrongI at h
    split at h
    · rename_i h1
      split at h
      · rename_i h2; exact ⟨h1.2, h2⟩
      · cases h
    · cases h
  have HV := Lib.hid (fun w' (hw : Ext w w') => value_any S vs 12 t hd.1 hd.2 w' v sl (Rd.ext hw hv) (hs.ext hw))
  have hsh : ∃ op n1 n2 nm base len cap, v = .agg #[.string op, .int .i64 n1, .int .i64 n2, .string nm, .slice base len cap] := by
    obtain ⟨op, n, nm, ts⟩ := t
    unfold Rd at hv
    obtain ⟨base, cap, hv, -⟩ := hv
    exact ⟨_, _, _, _, _, _, _, hv⟩
  obtain ⟨op, n1, n2, nm, base, len, cap, rfl⟩ := hsh
  clear hv hd hs
  rw [h] at HW
  rw [hx] at HV
  obtain ⟨x1, x2⟩ := x
  simp only [endE] at HV
  clear h hx
  have hmf : ∀ (fn : Fn) (first cap : Array Value) (w : World), (Instr.makeFunc fn first cap).run Try.prog w = .ok (.func fn first cap) w := fun _ _ _ _ => rfl
  go_enter_defers Try.func17, Try.ntmps17
  go_wp2_with (first
    | (go_at_call 43; (with_reducible refine (HW.out _ (by with_reducible repeat (first | exact Ext.refl _ | assumption | apply Ext.drewN | apply Ext.drew | apply Ext.alloc | (refine Ext.setCell ?_ (by simp <;> omega) _) | (refine Ext.trans ?_ (by assumption))))).mono ?_); rintro e w1 ⟨rfl, hb⟩; obtain ⟨hc, hf⟩ := hb.cells; have hz := hb.size; simp at hz; have z1 : w.heap.size < w1.heap.size := (by omega); have z2 : w.heap.size + 1 < w1.heap.size := (by omega); have z3 : w.heap.size + 1 + 1 < w1.heap.size := (by omega))
    | (go_at_call 45; (with_reducible refine (HV.out _ (by with_reducible repeat (first | exact Ext.refl _ | assumption | apply Ext.drewN | apply Ext.drew | apply Ext.alloc | (refine Ext.setCell ?_ (by simp <;> omega) _) | (refine Ext.trans ?_ (by assumption))))).mono ?_); rintro e w2 ⟨rfl, hb2⟩; obtain ⟨hc2, hf2⟩ := hb2.cells; have hz2 := hb2.size))
  have g1 : w2.cell? ⟨w.heap.size + 1, 0, none⟩ = some (.int .i64 0) := by go_simp
  have g2 : w2.cell? ⟨w.heap.size + 1, 1, none⟩ = some (.int .i64 0) := by go_simp
  have g3 : w2.cell? ⟨w.heap.size + 1 + 1, 0, none⟩ = some (.int .i64 0) := by go_simp
  refine leaves_cons (f := 44) (args := #[.pointer (some ⟨w.heap.size + 1, 0, none⟩), .pointer (some ⟨w.heap.size + 1 + 1, 0, none⟩)]) (by simp) (by simp [go_sem]) ?_
  refine (catch_idle _ _ _).mono ?_
  rintro e u' w'' ⟨rfl, rfl, rfl⟩
  exact ⟨rev ((x1, x2), 0), by simp [results, Try.results17, go_sem, g1, g2, g3], rfl, (by with_reducible repeat (first | exact Ext.refl _ | assumption | apply Ext.drewN | apply Ext.drew | apply Ext.alloc | (refine Ext.setCell ?_ (by simp <;> omega) _) | (refine Ext.trans ?_ (by assumption))))⟩

set_option maxRecDepth 100000 in
set_option maxHeartbeats 1000000 in
theorem eval_err (S : Nat → Prop) (vs : Vals) (t : Ex) (h : wrongI t = 0) (w : World) (v sl : Value) (hv : Rd S w t v) (hs : VRd S w vs sl) (f : Int) (hx : valueE vs t = .error f) :
    Calls Try.prog 17 #[v, sl] w fun e w' => e = .returned (rev ((0, 0), f)) ∧ Ext w w' := by
  have HW := Lib.hid (fun w' (hw : Ext w w') => wrong_any S t w' v (Rd.ext hw hv))
  have hd : t.depth ≤ 12 ∧ formedB t = true := by
    unfold wrongI at h
    split at h
    · rename_i h1
      split at h
      · rename_i h2; exact ⟨h1.2, h2⟩
      · cases h
    · cases h
  have HV := Lib.hid (fun w' (hw : Ext w w') => value_any S vs 12 t hd.1 hd.2 w' v sl (Rd.ext hw hv) (hs.ext hw))
  have hsh : ∃ op n1 n2 nm base len cap, v = .agg #[.string op, .int .i64 n1, .int .i64 n2, .string nm, .slice base len cap] := by
    obtain ⟨op, n, nm, ts⟩ := t
    unfold Rd at hv
    obtain ⟨base, cap, hv, -⟩ := hv
    exact ⟨_, _, _, _, _, _, _, hv⟩
  obtain ⟨op, n1, n2, nm, base, len, cap, rfl⟩ := hsh
  clear hv hd hs
  rw [h] at HW
  rw [hx] at HV
  simp only [endE] at HV
  clear h hx
  have hmf : ∀ (fn : Fn) (first cap : Array Value) (w : World), (Instr.makeFunc fn first cap).run Try.prog w = .ok (.func fn first cap) w := fun _ _ _ _ => rfl
  go_enter_defers Try.func17, Try.ntmps17
  go_wp2_with (first
    | (go_at_call 43; (with_reducible refine (HW.out _ (by with_reducible repeat (first | exact Ext.refl _ | assumption | apply Ext.drewN | apply Ext.drew | apply Ext.alloc | (refine Ext.setCell ?_ (by simp <;> omega) _) | (refine Ext.trans ?_ (by assumption))))).mono ?_); rintro e w1 ⟨rfl, hb⟩; obtain ⟨hc, hf⟩ := hb.cells; have hz := hb.size; simp at hz; have z1 : w.heap.size < w1.heap.size := (by omega); have z2 : w.heap.size + 1 < w1.heap.size := (by omega); have z3 : w.heap.size + 1 + 1 < w1.heap.size := (by omega))
    | (go_at_call 45; (with_reducible refine (HV.out _ (by with_reducible repeat (first | exact Ext.refl _ | assumption | apply Ext.drewN | apply Ext.drew | apply Ext.alloc | (refine Ext.setCell ?_ (by simp <;> omega) _) | (refine Ext.trans ?_ (by assumption))))).mono ?_); rintro e w2 ⟨rfl, hb2⟩; obtain ⟨hc2, hf2⟩ := hb2.cells; have hz2 := hb2.size))
  have g1 : w2.cell? ⟨w.heap.size + 1, 0, none⟩ = some (.int .i64 0) := by go_simp
  have g2 : w2.cell? ⟨w.heap.size + 1, 1, none⟩ = some (.int .i64 0) := by go_simp
  have g3 : w2.cell? ⟨w.heap.size + 1 + 1, 0, none⟩ = some (.int .i64 0) := by go_simp
  have p1 : w2.frozen? ⟨w.heap.size + 1, 0, none⟩ = false := by go_simp
  have p2 : w2.frozen? ⟨w.heap.size + 1, 1, none⟩ = false := by go_simp
  have p3 : w2.frozen? ⟨w.heap.size + 1 + 1, 0, none⟩ = false := by go_simp
  have hx2 : Ext w w2 := (by with_reducible repeat (first | exact Ext.refl _ | assumption | apply Ext.drewN | apply Ext.drew | apply Ext.alloc | (refine Ext.setCell ?_ (by simp <;> omega) _) | (refine Ext.trans ?_ (by assumption))))
  refine leaves_cons (f := 44) (args := #[.pointer (some ⟨w.heap.size + 1, 0, none⟩), .pointer (some ⟨w.heap.size + 1 + 1, 0, none⟩)]) (by simp) (by simp [go_sem]) ?_
  refine (catch_panic w.heap.size (w.heap.size + 1) (w.heap.size + 1 + 1) f _ _ _ [] _ g1 g2 g3 p1 p2 p3 (by omega) (by omega) (by omega) hx2.size).mono ?_
  rintro e u' w'' ⟨rfl, rfl, c1, c2, c3, hbb⟩
  exact ⟨rev ((0, 0), f), by simp [results, Try.results17, go_sem, c1, c2, c3], rfl, Below.trans hx2 hbb⟩

theorem eval_any (S : Nat → Prop) (vs : Vals) (t : Ex) (w : World) (v sl : Value) (hv : Rd S w t v) (hs : VRd S w vs sl) :
    Calls Try.prog 17 #[v, sl] w fun e w' => e = .returned (rev (evalI vs t)) ∧ Ext w w' := by
  unfold evalI
  by_cases h : wrongI t = 0
  · rw [if_pos h]
    cases hx : valueE vs t with
    | ok x => exact eval_ok S vs t h w v sl hv hs x hx
    | error f => exact eval_err S vs t h w v sl hv hs f hx
  · rw [if_neg h]
    exact eval_wrong S vs t h w v sl hv
end Go.Proofs.Ytgkdeknfmmgbdaa
