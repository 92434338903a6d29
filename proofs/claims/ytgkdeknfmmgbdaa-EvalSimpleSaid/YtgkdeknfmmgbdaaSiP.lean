/-
  What folding a formula keeps: the plain law. Nothing is asked.
-/
import Derived.Test.YtgkdeknfmmgbdaaJnI
namespace Go.Proofs.Ytgkdeknfmmgbdaa
set_option linter.unusedVariables false
set_option linter.unusedSimpArgs false
open Go.RowKit

theorem valE_isnum (vs : Vals) {t : Ex} (h : (t.op.toList == [110, 117, 109]) = true) : valueE vs t = .ok t.num := by
  obtain ⟨op, n, nm, ts⟩ := t
  have h' : (op.toList == [110, 117, 109]) = true := h
  rw [valueE, if_pos h']
  rfl
theorem formed_isnum {t : Ex} (h : (t.op.toList == [110, 117, 109]) = true) (hf : formedB t = true) : rightB t.num.1 t.num.2 = true := by
  obtain ⟨op, n, nm, ts⟩ := t
  have h' : (op.toList == [110, 117, 109]) = true := h
  rw [formedB, if_pos h'] at hf
  simp only [Bool.and_eq_true] at hf
  exact hf.2.2
theorem fold_laws : ∀ (d : Nat) (t : Ex) (_ : t.depth ≤ d) (_ : formedB t = true), formedB (foldE t) = true ∧ (foldE t).parts ≤ t.parts ∧ (foldE t).depth ≤ t.depth ∧ foldE (foldE t) = foldE t ∧ ∀ vs, valueE vs (foldE t) = valueE vs t
  | 0, .mk op n nm ts, hd, _ => by rw [Ex.depth] at hd; omega
  | d + 1, .mk op n nm ts, hd, hf => by
    have hf0 := hf
    have leafc : ts = [] → formedB (foldE (.mk op n nm ts)) = true ∧ (foldE (.mk op n nm ts)).parts ≤ (Ex.mk op n nm ts).parts ∧ (foldE (.mk op n nm ts)).depth ≤ (Ex.mk op n nm ts).depth ∧ foldE (foldE (.mk op n nm ts)) = foldE (.mk op n nm ts) ∧ ∀ vs, valueE vs (foldE (.mk op n nm ts)) = valueE vs (.mk op n nm ts) := by
      rintro rfl
      have e : foldE (.mk op n nm []) = .mk op n nm [] := by rw [foldE, foldL]
      rw [e, e]
      exact ⟨hf0, Nat.le_refl _, Nat.le_refl _, rfl, fun _ => rfl⟩
    rw [formedB] at hf
    cases h0 : (op.toList == [110, 117, 109])
    · rw [h0] at hf
      cases h : (op.toList == [110, 97, 109, 101])
      · rw [h] at hf
        simp only [Bool.false_eq_true, if_false] at hf
        simp only [Bool.and_eq_true, Bool.not_eq_true', beq_eq_false_iff_ne, ne_eq, beq_iff_eq] at hf
        obtain ⟨hi, h2, hnm, ⟨hn1, hn2⟩, hl⟩ := hf
        match ts, h2, hl, hd with
        | [ta, tb], _, hl, hd =>
          rw [Ex.depth, Ex.depthL, Ex.depthL, Ex.depthL] at hd
          simp only [formedL, Bool.and_eq_true, Bool.and_true] at hl
          obtain ⟨fa, pa, da, ia, va⟩ := fold_laws d ta (by omega) hl.1
          obtain ⟨fb, pb, db, ib, vb⟩ := fold_laws d tb (by omega) hl.2
          have e : foldE (.mk op n nm [ta, tb]) = foldTwo op (foldE ta) (foldE tb) := by rw [foldE, foldL, foldL, foldL]
          have hv : ∀ vs, valueE vs (.mk op n nm [ta, tb]) = (match valueE vs (foldE ta) with | .error f => .error f | .ok x => match valueE vs (foldE tb) with | .error f => .error f | .ok y => appE (applyI (opIx op).toNat x y)) := by
            intro vs
            rw [valueE, if_neg (by rw [h0]; simp), if_neg (by rw [h]; simp), valueL, valueL, valueL, ← va vs, ← vb vs]
            cases valueE vs (foldE ta) with
            | error f => rfl
            | ok x => cases valueE vs (foldE tb) <;> rfl
          rw [e]
          have hT : formedB (.mk op (0, 0) nilB [foldE ta, foldE tb]) = true := by
            rw [formedB, h0, h]
            simp only [Bool.false_eq_true, if_false]
            rw [show (opIx op == -1) = false by rw [beq_eq_false_iff_ne]; exact hi, nil_is, formedL, formedL, formedL, fa, fb]
            rfl
          have hTv : ∀ vs, valueE vs (.mk op (0, 0) nilB [foldE ta, foldE tb]) = valueE vs (.mk op n nm [ta, tb]) := by
            intro vs
            rw [hv vs, valueE, if_neg (by rw [h0]; simp), if_neg (by rw [h]; simp), valueL, valueL, valueL]
            cases valueE vs (foldE ta) with
            | error f => rfl
            | ok x => cases valueE vs (foldE tb) <;> rfl
          have hTp : (Ex.mk op (0, 0) nilB [foldE ta, foldE tb]).parts ≤ (Ex.mk op n nm [ta, tb]).parts ∧ (Ex.mk op (0, 0) nilB [foldE ta, foldE tb]).depth ≤ (Ex.mk op n nm [ta, tb]).depth := by
            constructor
            · rw [Ex.parts, Ex.parts, Ex.partsL, Ex.partsL, Ex.partsL, Ex.partsL, Ex.partsL]; omega
            · rw [Ex.depth, Ex.depth, Ex.depthL, Ex.depthL, Ex.depthL, Ex.depthL, Ex.depthL]; omega
          have hTf : foldE (.mk op (0, 0) nilB [foldE ta, foldE tb]) = foldTwo op (foldE ta) (foldE tb) := by rw [foldE, foldL, foldL, foldL, ia, ib]
          by_cases hn : ((foldE ta).op.toList == [110, 117, 109] && (foldE tb).op.toList == [110, 117, 109]) = true
          · have hnn := Bool.and_eq_true_iff.1 hn
            by_cases hz : (applyI (opIx op).toNat (foldE ta).num (foldE tb).num).2 = 0
            · have e2 : foldTwo op (foldE ta) (foldE tb) = numE (applyI (opIx op).toNat (foldE ta).num (foldE tb).num).1 := by unfold foldTwo; rw [if_pos hn, if_pos hz]
              rw [e2]
              have hap : appE (applyI (opIx op).toNat (foldE ta).num (foldE tb).num) = .ok (applyI (opIx op).toNat (foldE ta).num (foldE tb).num).1 := by unfold appE; rw [if_pos hz]
              have hr := (applyI_right (opIx op).toNat (formed_isnum hnn.1 fa) (formed_isnum hnn.2 fb) hap).1
              refine ⟨by rw [formed_numE]; exact hr, ?_, ?_, ?_, fun vs => ?_⟩
              · unfold numE leaf; rw [Ex.parts, Ex.partsL, Ex.parts]; omega
              · unfold numE leaf; rw [Ex.depth, Ex.depthL, Ex.depth]; omega
              · unfold numE leaf; rw [foldE, foldL]
              · rw [valE_num, hv vs, valE_isnum vs hnn.1, valE_isnum vs hnn.2]
                simp only
                rw [hap]
            · have e2 : foldTwo op (foldE ta) (foldE tb) = .mk op (0, 0) nilB [foldE ta, foldE tb] := by unfold foldTwo; rw [if_pos hn, if_neg hz]
              rw [← e2] at hT hTv hTp
              exact ⟨hT, hTp.1, hTp.2, by rw [e2, hTf, e2], hTv⟩
          · have e2 : foldTwo op (foldE ta) (foldE tb) = .mk op (0, 0) nilB [foldE ta, foldE tb] := by unfold foldTwo; rw [if_neg hn]
            rw [← e2] at hT hTv hTp
            exact ⟨hT, hTp.1, hTp.2, by rw [e2, hTf, e2], hTv⟩
      · rw [h] at hf
        simp only [Bool.false_eq_true, if_false, if_true, Bool.and_eq_true, beq_iff_eq] at hf
        exact leafc (List.eq_nil_of_length_eq_zero hf.1)
    · rw [h0] at hf
      simp only [if_true, Bool.and_eq_true, beq_iff_eq] at hf
      exact leafc (List.eq_nil_of_length_eq_zero hf.1)

theorem simp_laws (t : Ex) : (simpE t).parts ≤ t.parts ∧ simpE (simpE t) = simpE t ∧ ∀ vs, evalI vs (simpE t) = evalI vs t := by
  by_cases h : wrongI t = 0
  · have e : simpE t = foldE t := if_pos h
    obtain ⟨h1, h2, h3⟩ := wrong_zero h
    obtain ⟨f, p, d, i, v⟩ := fold_laws t.depth t (Nat.le_refl _) h3
    have h0 : wrongI (foldE t) = 0 := by
      unfold wrongI
      rw [if_pos ⟨by omega, by omega⟩, if_pos f]
    rw [e]
    refine ⟨p, ?_, fun vs => ?_⟩
    · rw [show simpE (foldE t) = foldE (foldE t) from if_pos h0, i]
    · unfold evalI
      rw [if_pos h, if_pos h0, v vs]
  · have e : simpE t = t := if_neg h
    rw [e, e]
    exact ⟨Nat.le_refl _, rfl, fun _ => rfl⟩
end Go.Proofs.Ytgkdeknfmmgbdaa
