/-
  Package eval: folded of every right tree; Simplify. Conditions: the value stands for a tree.
-/
import Derived.Test.YtgkdeknfmmgbdaaEvF
namespace Go.Proofs.Ytgkdeknfmmgbdaa
set_option linter.unusedVariables false
set_option linter.unusedSimpArgs false
open Go.RowKit

theorem foldTwo_two (op : ByteArray) (a b : Ex) (ha : twoB a = true) (hb : twoB b = true) : twoB (foldTwo op a b) = true := by
  unfold foldTwo
  have h : twoB (.mk op (0, 0) nilB [a, b]) = true := by simp [twoB, twoL, ha, hb]
  split
  · split
    · rfl
    · exact h
  · exact h

theorem fold_two : ∀ (d : Nat) (t : Ex) (_ : t.depth ≤ d), formedB t = true → twoB (foldE t) = true
  | 0, .mk op n nm ts, hd, _ => by rw [Ex.depth] at hd; omega
  | d + 1, .mk op n nm ts, hd, hf => by
    rw [formedB] at hf
    cases h0 : (op.toList == [110, 117, 109])
    · rw [h0] at hf
      cases h : (op.toList == [110, 97, 109, 101])
      · rw [h] at hf
        simp only [Bool.false_eq_true, if_false] at hf
        simp only [Bool.and_eq_true, Bool.not_eq_true', beq_eq_false_iff_ne, ne_eq, beq_iff_eq] at hf
        obtain ⟨hi, h2, -, -, hl⟩ := hf
        match ts, h2, hl, hd with
        | [ta, tb], _, hl, hd =>
          rw [Ex.depth, Ex.depthL, Ex.depthL, Ex.depthL] at hd
          simp only [formedL, Bool.and_eq_true, Bool.and_true] at hl
          rw [foldE, foldL, foldL, foldL]
          exact foldTwo_two op _ _ (fold_two d ta (by omega) hl.1) (fold_two d tb (by omega) hl.2)
      · rw [h] at hf
        simp only [Bool.false_eq_true, if_false, if_true, Bool.and_eq_true, beq_iff_eq] at hf
        match ts, hf.1 with
        | [], _ => rw [foldE, foldL]; rfl
    · rw [h0] at hf
      simp only [if_true, Bool.and_eq_true, beq_iff_eq] at hf
      match ts, hf.1 with
      | [], _ => rw [foldE, foldL]; rfl

theorem folded_any (T S : Nat → Prop) : ∀ (d : Nat) (t : Ex) (_ : t.depth ≤ d) (_ : formedB t = true) (w : World) (v : Value) (_ : Rd T w t v) (_ : ∀ b, w.heap.size ≤ b → S b),
    Calls Try.prog 47 #[v] w fun e w' => ∃ v', e = .returned v' ∧ Ext w w' ∧ Rd S w' (foldE t) v'
  | 0, .mk op n nm ts, hd, _, _, _, _, _ => by rw [Ex.depth] at hd; omega
  | d + 1, .mk op n nm ts, hd, hf, w, v, hv, hS => by
    have leafc : ts = [] → Calls Try.prog 47 #[v] w fun e w' => ∃ v', e = .returned v' ∧ Ext w w' ∧ Rd S w' (foldE (.mk op n nm ts)) v' := by
      rintro rfl
      rw [foldE, foldL]
      unfold Rd at hv
      obtain ⟨base, cap, rfl, hn, -, -⟩ := hv
      refine (fold_leaf op n nm base cap w).mono ?_
      rintro e w' ⟨rfl, hx⟩
      refine ⟨_, rfl, hx, ?_⟩
      unfold Rd
      exact ⟨base, cap, rfl, hn, by simp, .inl rfl⟩
    rw [formedB] at hf
    cases h0 : (op.toList == [110, 117, 109])
    · rw [h0] at hf
      cases h : (op.toList == [110, 97, 109, 101])
      · rw [h] at hf
        simp only [Bool.false_eq_true, if_false] at hf
        simp only [Bool.and_eq_true, Bool.not_eq_true', beq_eq_false_iff_ne, ne_eq, beq_iff_eq] at hf
        obtain ⟨hi, h2, -, -, hl⟩ := hf
        match ts, h2, hl, hd, hv with
        | [ta, tb], _, hl, hd, hv =>
          rw [Ex.depth, Ex.depthL, Ex.depthL, Ex.depthL] at hd
          simp only [formedL, Bool.and_eq_true, Bool.and_true] at hl
          rw [foldE, foldL, foldL, foldL]
          exact fold_op T S op n nm ta tb hi w v hv hS _ _ (fold_two d ta (by omega) hl.1) (fold_two d tb (by omega) hl.2)
            (fun w' v hv hw => folded_any T S d ta (by omega) hl.1 w' v hv (fun b hb => hS b (by omega)))
            (fun w' v hv hw => folded_any T S d tb (by omega) hl.2 w' v hv (fun b hb => hS b (by omega)))
      · rw [h] at hf
        simp only [Bool.false_eq_true, if_false, if_true, Bool.and_eq_true, beq_iff_eq] at hf
        exact leafc (List.eq_nil_of_length_eq_zero hf.1)
    · rw [h0] at hf
      simp only [if_true, Bool.and_eq_true, beq_iff_eq] at hf
      exact leafc (List.eq_nil_of_length_eq_zero hf.1)

theorem wrong_zero {t : Ex} (h : wrongI t = 0) : t.parts ≤ 60 ∧ t.depth ≤ 12 ∧ formedB t = true := by
  unfold wrongI at h
  split at h
  · rename_i h1
    split at h
    · rename_i h2; exact ⟨h1.1, h1.2, h2⟩
    · cases h
  · cases h

def simpE (t : Ex) : Ex := if wrongI t = 0 then foldE t else t

theorem Rd.form {S : Nat → Prop} {w : World} {t : Ex} {v : Value} (h : Rd S w t v) : ∃ op n1 n2 nm base len cap, v = .agg #[.string op, .int .i64 n1, .int .i64 n2, .string nm, .slice base len cap] := by
  obtain ⟨op, n, nm, ts⟩ := t
  unfold Rd at h
  obtain ⟨base, cap, hv, -⟩ := h
  exact ⟨_, _, _, _, _, _, _, hv⟩
/-- A tree is kept where only a block of fewer than six cells has turned. -/
theorem Rd.past {S : Nat → Prop} {wd wz : World} {r : Nat} {t : Ex} {v : Value} (h2 : twoB t = true) (h : Rd S wd t v) (h5 : wd.cell? ⟨r, 5, none⟩ = none)
    (far : ∀ b o, ¬ b = r → b < wd.heap.size → wz.cell? ⟨b, o, none⟩ = wd.cell? ⟨b, o, none⟩) : Rd S wz t v :=
  Rd.frame (S := fun b => S b ∧ ∃ u, wd.cell? ⟨b, 5, none⟩ = some u) (fun b o ⟨_, u, hu⟩ hb => far b o (by rintro rfl; rw [h5] at hu; cases hu) hb) (fun _ h => h.1) _ _ (Rd.big _ _ h2 h)

set_option maxRecDepth 100000 in
set_option maxHeartbeats 1000000 in
theorem simplify_any (T S : Nat → Prop) (t : Ex) (w : World) (v : Value) (hv : Rd T w t v) (hT : ¬ wrongI t = 0 → Rd S w t v) (hS : ∀ b, w.heap.size ≤ b → S b) :
    Calls Try.prog 19 #[v] w fun e w' => ∃ v', e = .returned v' ∧ Ext w w' ∧ Rd S w' (simpE t) v' := by
  have HW := Lib.hid (fun w' (hw : Ext w w') => wrong_any T t w' v (Rd.ext hw hv))
  have hsh : ∃ op n1 n2 nm base len cap, v = .agg #[.string op, .int .i64 n1, .int .i64 n2, .string nm, .slice base len cap] := by
    obtain ⟨op, n, nm, ts⟩ := t
    unfold Rd at hv
    obtain ⟨base, cap, hv, -⟩ := hv
    exact ⟨_, _, _, _, _, _, _, hv⟩
  obtain ⟨op, n1, n2, nm, base, len, cap, rfl⟩ := hsh
  by_cases h : wrongI t = 0
  · have HE := Lib.hid (show simpE t = foldE t from if_pos h)
    have hd := wrong_zero h
    have HF := Lib.hid (fun w' (hw : Ext w w') => folded_any T S 12 t hd.2.1 hd.2.2 w' _ (Rd.ext hw hv) (fun b hb => hS b (Nat.le_trans hw.size hb)))
    have h2 := Lib.hid (fold_two 12 t hd.2.1 hd.2.2)
    rw [h] at HW
    clear h hd hv hT
    go_enter Try.func19, Try.ntmps19
    go_wp2_with (first
      | (go_at_call 43; (with_reducible refine (HW.out _ (by with_reducible repeat (first | exact Ext.refl _ | assumption | apply Ext.drewN | apply Ext.drew | apply Ext.alloc | (refine Ext.setCell ?_ (by simp <;> omega) _) | (refine Ext.trans ?_ (by assumption))))).mono ?_); rintro e w1 ⟨rfl, hb⟩; obtain ⟨hc, hf⟩ := hb.cells; have hz := hb.size; simp at hz; have z1 : w.heap.size < w1.heap.size := (by omega); have z2 : w.heap.size + 1 < w1.heap.size := (by omega))
      | (go_at_call 47; (with_reducible refine (HF.out _ (by with_reducible repeat (first | exact Ext.refl _ | assumption | apply Ext.drewN | apply Ext.drew | apply Ext.alloc | (refine Ext.setCell ?_ (by simp <;> omega) _) | (refine Ext.trans ?_ (by assumption))))).mono ?_); rintro e w2 ⟨v2, rfl, hb2, hr⟩; obtain ⟨hc2, hf2⟩ := hb2.cells; obtain ⟨q0, q1, q2, q3, q4, q5, q6, rfl⟩ := hr.form; have HR := Lib.hid hr; clear hr))
    have n1 : ¬ w.heap.size + 1 = w.heap.size := by omega
    have v0 : w2.cell? ⟨w.heap.size + 1, 0, none⟩ = some (.string ⟨#[]⟩) := by go_simp
    have v1 : w2.cell? ⟨w.heap.size + 1, 1, none⟩ = some (.int .i64 0) := by go_simp
    have v2 : w2.cell? ⟨w.heap.size + 1, 2, none⟩ = some (.int .i64 0) := by go_simp
    have v3 : w2.cell? ⟨w.heap.size + 1, 3, none⟩ = some (.string ⟨#[]⟩) := by go_simp
    have v4 : w2.cell? ⟨w.heap.size + 1, 4, none⟩ = some (.slice none 0 0) := by go_simp
    have v5 : w2.cell? ⟨w.heap.size + 1, 5, none⟩ = none := by go_simp
    have far : ∀ b o, ¬ b = w.heap.size + 1 → b < w2.heap.size → (((((w2.setCell ⟨w.heap.size + 1, 0, none⟩ (.string q0)).setCell ⟨w.heap.size + 1, 1, none⟩ (.int .i64 q1)).setCell ⟨w.heap.size + 1, 2, none⟩ (.int .i64 q2)).setCell ⟨w.heap.size + 1, 3, none⟩ (.string q3)).setCell ⟨w.heap.size + 1, 4, none⟩ (.slice q4 q5 q6)).cell? ⟨b, o, none⟩ = w2.cell? ⟨b, o, none⟩ := by
      intro b o h1 h2
      have h3 : ¬ w.heap.size + 1 = b := fun e => h1 e.symm
      go_simp
    exact bodyPost_ret (v := .agg #[.string q0, .int .i64 q1, .int .i64 q2, .string q3, .slice q4 q5 q6]) (by simp [results, Try.results19, go_sem, v0, v1, v2, v3, v4]) rfl ⟨_, rfl, (by with_reducible repeat (first | exact Ext.refl _ | assumption | apply Ext.drewN | apply Ext.drew | apply Ext.alloc | (refine Ext.setCell ?_ (by simp <;> omega) _) | (refine Ext.trans ?_ (by assumption)))), by rw [HE.out]; exact Rd.past h2.out HR.out v5 far⟩
  · have HE := Lib.hid (show simpE t = t from if_neg h)
    have hr := Lib.hid (hT h)
    generalize wrongI t = k at *
    clear hv hT
    go_enter Try.func19, Try.ntmps19
    go_wp2_with (go_at_call 43; (with_reducible refine (HW.out _ (by with_reducible repeat (first | exact Ext.refl _ | assumption | apply Ext.drewN | apply Ext.drew | apply Ext.alloc | (refine Ext.setCell ?_ (by simp <;> omega) _) | (refine Ext.trans ?_ (by assumption))))).mono ?_); rintro e w1 ⟨rfl, hb⟩; obtain ⟨hc, hf⟩ := hb.cells; have hz := hb.size; simp at hz; have z1 : w.heap.size < w1.heap.size := (by omega); have z2 : w.heap.size + 1 < w1.heap.size := (by omega))
    have v0 : w1.cell? ⟨w.heap.size + 1, 0, none⟩ = some (.string ⟨#[]⟩) := by go_simp
    have v1 : w1.cell? ⟨w.heap.size + 1, 1, none⟩ = some (.int .i64 0) := by go_simp
    have v2 : w1.cell? ⟨w.heap.size + 1, 2, none⟩ = some (.int .i64 0) := by go_simp
    have v3 : w1.cell? ⟨w.heap.size + 1, 3, none⟩ = some (.string ⟨#[]⟩) := by go_simp
    have v4 : w1.cell? ⟨w.heap.size + 1, 4, none⟩ = some (.slice none 0 0) := by go_simp
    have hxf : Ext w (((((w1.setCell ⟨w.heap.size + 1, 0, none⟩ (.string op)).setCell ⟨w.heap.size + 1, 1, none⟩ (.int .i64 n1)).setCell ⟨w.heap.size + 1, 2, none⟩ (.int .i64 n2)).setCell ⟨w.heap.size + 1, 3, none⟩ (.string nm)).setCell ⟨w.heap.size + 1, 4, none⟩ (.slice base len cap)) := (by with_reducible repeat (first | exact Ext.refl _ | assumption | apply Ext.drewN | apply Ext.drew | apply Ext.alloc | (refine Ext.setCell ?_ (by simp <;> omega) _) | (refine Ext.trans ?_ (by assumption))))
    exact bodyPost_ret (v := .agg #[.string op, .int .i64 n1, .int .i64 n2, .string nm, .slice base len cap]) (by simp [results, Try.results19, go_sem, v0, v1, v2, v3, v4]) rfl ⟨_, rfl, hxf, by rw [HE.out]; exact hr.out.ext hxf⟩
end Go.Proofs.Ytgkdeknfmmgbdaa
