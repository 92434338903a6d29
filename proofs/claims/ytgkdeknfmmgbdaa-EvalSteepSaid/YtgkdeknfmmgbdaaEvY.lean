/-
  Package eval: value, of every right tree. Conditions: the value stands for a right tree.
-/
import Derived.Test.YtgkdeknfmmgbdaaEvX
import Derived.Test.YtgkdeknfmmgbdaaDv
namespace Go.Proofs.Ytgkdeknfmmgbdaa
set_option linter.unusedVariables false
set_option linter.unusedSimpArgs false
open Go.RowKit

/-- All numbers of a tree lie in the range. -/
theorem valueE_I2 {S : Nat → Prop} {vs : Vals} (hvs : VR vs) : ∀ (d : Nat) (t : Ex) (_ : t.depth ≤ d) {w : World} {v : Value} (_ : Rd S w t v) {x : Int × Int}, valueE vs t = .ok x → I2 x
  | 0, .mk op n nm ts, hd, _, _, _, _, _ => by rw [Ex.depth] at hd; omega
  | d + 1, .mk op n nm ts, hd, w, v, hv, x, hx => by
    unfold Rd at hv
    obtain ⟨base, cap, hv, hn, -, hr⟩ := hv
    rw [valueE] at hx
    split at hx
    · injection hx with hx; rw [← hx]; exact hn
    · split at hx
      · cases hl : look vs nm with
        | none => rw [hl] at hx; cases hx
        | some k =>
          rw [hl] at hx
          injection hx with hx
          have := look_range hvs hl
          rw [← hx]
          exact ⟨this.1, this.2, by show (-9223372036854775808 : Int) ≤ 1; decide, by show (1 : Int) ≤ 9223372036854775807; decide⟩
      · match ts, hd, hr with
        | [], _, _ => simp [valueL] at hx
        | [_], _, _ => simp [valueL] at hx
        | _ :: _ :: _ :: _, _, _ => simp [valueL] at hx
        | [ta, tb], hd, hr =>
          rw [Ex.depth, Ex.depthL, Ex.depthL, Ex.depthL] at hd
          rcases hr with hr | ⟨b, -, -, hl⟩
          · cases hr
          obtain ⟨c, -, hra⟩ := hl.get 0 (by simp)
          obtain ⟨e, -, hrb⟩ := hl.get 1 (by simp)
          simp only [List.getElem_cons_zero, List.getElem_cons_succ] at hra hrb
          simp only [valueL] at hx
          cases ha : valueE vs ta with
          | error f => rw [ha] at hx; cases hx
          | ok y =>
            cases hb : valueE vs tb with
            | error f => rw [ha, hb] at hx; cases hx
            | ok z =>
              rw [ha, hb] at hx
              have ia := valueE_I2 hvs d ta (by omega) hra ha
              have ib := valueE_I2 hvs d tb (by omega) hrb hb
              have := applyI_I2 (opIx op).toNat y z ia ib
              simp only [appE] at hx
              split at hx
              · injection hx with hx; rw [← hx]; exact this
              · cases hx

theorem value_any (S : Nat → Prop) (vs : Vals) : ∀ (d : Nat) (t : Ex) (_ : t.depth ≤ d) (_ : formedB t = true) (w : World) (v sl : Value) (_ : Rd S w t v) (_ : VRd S w vs sl),
    Calls Try.prog 45 #[v, sl] w fun e w' => e = endE (valueE vs t) ∧ Ext w w'
  | 0, .mk op n nm ts, hd, _, _, _, _, _, _ => by rw [Ex.depth] at hd; omega
  | d + 1, .mk op n nm ts, hd, hf, w, v, sl, hv, hs => by
    rw [formedB] at hf
    rw [valueE]
    cases h0 : (op.toList == [110, 117, 109])
    · rw [h0] at hf
      cases h : (op.toList == [110, 97, 109, 101])
      · rw [h] at hf
        simp only [Bool.false_eq_true, if_false] at hf ⊢
        simp only [Bool.and_eq_true, Bool.not_eq_true', beq_eq_false_iff_ne, ne_eq, beq_iff_eq] at hf
        obtain ⟨hi, h2, -, -, hl⟩ := hf
        match ts, h2, hl, hd, hv with
        | [ta, tb], _, hl, hd, hv =>
          rw [Ex.depth, Ex.depthL, Ex.depthL, Ex.depthL] at hd
          simp only [formedL, Bool.and_eq_true, Bool.and_true] at hl
          have ia := fun w v sl hv hs => value_any S vs d ta (by omega) hl.1 w v sl hv hs
          have ib := fun w v sl hv hs => value_any S vs d tb (by omega) hl.2 w v sl hv hs
          simp only [valueL]
          cases ha : valueE vs ta with
          | error f => exact value_op1 S op n nm ta tb h0 h hi vs w v sl hv hs _ _ ia ib f ha
          | ok y =>
            cases hb : valueE vs tb with
            | error f => exact value_op2 S op n nm ta tb h0 h hi vs w v sl hv hs _ _ ia ib y f ha hb
            | ok z =>
              have hvs : VR vs := by obtain ⟨_, _, _, _, h, _⟩ := hs; exact h
              have hra : ∃ w v, Rd S w ta v := by
                unfold Rd at hv
                obtain ⟨base, cap, hv, hn, -, hr⟩ := hv
                rcases hr with hr | ⟨b, -, -, hl⟩
                · cases hr
                obtain ⟨c, -, hra⟩ := hl.get 0 (by simp)
                exact ⟨_, _, hra⟩
              have hrb : ∃ w v, Rd S w tb v := by
                unfold Rd at hv
                obtain ⟨base, cap, hv, hn, -, hr⟩ := hv
                rcases hr with hr | ⟨b, -, -, hl⟩
                · cases hr
                obtain ⟨c, -, hrb⟩ := hl.get 1 (by simp)
                exact ⟨_, _, hrb⟩
              obtain ⟨wa, va, hra⟩ := hra
              obtain ⟨wb, vb, hrb⟩ := hrb
              have hb6 := opIx_bd op
              exact value_op3 S op n nm ta tb h0 h hi vs w v sl hv hs _ _ ia ib y z ha hb (applyI (opIx op).toNat y z)
                (fun w => apply_any div64_said _ (by omega) y z (valueE_I2 hvs d ta (by omega) hra ha) (valueE_I2 hvs d tb (by omega) hrb hb) w) _ (Lib.hid rfl)
      · simp only [Bool.false_eq_true, if_false, if_true]
        exact value_name S op n nm ts h0 h vs w v sl hv hs
    · simp only [if_true]
      exact (value_num S op n nm ts h0 w v sl hv)

end Go.Proofs.Ytgkdeknfmmgbdaa
