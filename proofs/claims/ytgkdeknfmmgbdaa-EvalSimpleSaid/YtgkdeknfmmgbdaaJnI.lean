/-
  Joined: the lemmas of this claim that other texts of it use, part 9. Nothing is asked.
-/
import Derived.Test.YtgkdeknfmmgbdaaJnH
import Derived.ProofKit
import Derived.OpenShut
import Derived.Below
import Derived.ChangeSame
import Derived.ReadAgain
import Derived.ChangeSlices
import Derived.ChangeReads
import Derived.ChangeOld
import Derived.ChangeStays
namespace Go.Proofs.Ytgkdeknfmmgbdaa
set_option linter.unusedVariables false
set_option linter.unusedSimpArgs false
open Go.RowKit

abbrev scaledE (s c : Int) (t : Ex) : Ex := opE' addB (opE' mulB (numE (s, 1)) t) (numE (c, 1))
theorem scaled_size (s c : Int) (t : Ex) : (scaledE s c t).parts = t.parts + 4 ∧ t.depth + 2 ≤ (scaledE s c t).depth := by
  unfold scaledE opE' numE leaf
  rw [Ex.parts, Ex.partsL, Ex.partsL, Ex.partsL, Ex.parts, Ex.partsL, Ex.partsL, Ex.partsL, Ex.parts, Ex.parts, Ex.partsL, Ex.depth, Ex.depthL, Ex.depthL, Ex.depthL, Ex.depth, Ex.depthL, Ex.depthL, Ex.depthL, Ex.depth, Ex.depth, Ex.depthL]
  exact ⟨by omega, by omega⟩
theorem right_int (n : Int) : rightB n 1 = true := (rightB_iff _ _).2 ⟨by decide, by simp⟩
theorem scaled_formed (s c : Int) (t : Ex) (h : formedB t = true) : formedB (scaledE s c t) = true := by
  show formedB (opE' (opNm 0) (opE' (opNm 2) (numE (s, 1)) t) (numE (c, 1))) = true
  rw [formed_op' 0 (by decide), formed_op' 2 (by decide), formed_numE, formed_numE, right_int, right_int, h]
  rfl
theorem wrong_cases (t : Ex) (h : formedB t = true) : wrongI t = 0 ∨ wrongI t = 2 := by
  unfold wrongI
  split
  · first | exact .inl rfl | (rw [if_pos h]; exact .inl rfl)
  · exact .inr rfl
theorem wrong_scaled (s c : Int) (t : Ex) (h : wrongI t = 2) (hf : formedB t = true) : wrongI (scaledE s c t) = 2 := by
  have hs := scaled_size s c t
  unfold wrongI at h ⊢
  split at h
  · first | exact absurd h (by decide) | (rw [if_pos hf] at h; cases h)
  · rename_i hn
    rw [if_neg (by omega)]
theorem value_op (vs : Vals) (i : Nat) (h : i < 6) (a b : Ex) : valueE vs (opE' (opNm i) a b) = (match valueE vs a with | .error f => .error f | .ok x => match valueE vs b with | .error f => .error f | .ok y => appE (applyI i x y)) := by
  obtain ⟨h1, h2⟩ := op_not i h
  have hL : valueL vs [a, b] = [valueE vs a, valueE vs b] := by rw [valueL, valueL, valueL]
  unfold opE'
  rw [valueE, if_neg (by rw [h1]; decide), if_neg (by rw [h2]; decide), hL, opIx_at i h]
  rfl
theorem valE_num (vs : Vals) (n : Int × Int) : valueE vs (numE n) = .ok n := by
  unfold numE leaf
  rw [valueE, if_pos num_is]
theorem value_scaled (vs : Vals) (s c : Int) (t : Ex) : valueE vs (scaledE s c t) = (match valueE vs t with | .error f => .error f | .ok x => match appE (applyI 2 (s, 1) x) with | .error f => .error f | .ok m => appE (applyI 0 m (c, 1))) := by
  show valueE vs (opE' (opNm 0) (opE' (opNm 2) (numE (s, 1)) t) (numE (c, 1))) = _
  rw [value_op vs 0 (by decide), value_op vs 2 (by decide), valE_num, valE_num]
  cases valueE vs t with
  | error f => rfl
  | ok x => rfl
/-- Where one of both has an error. -/
theorem steep_first (vs : Vals) (s c : Int) (t : Ex) (hf : formedB t = true) : (evalI vs t).2 = 0 ∨ (evalI vs t).2 = (evalI vs (scaledE s c t)).2 ∨ (evalI vs (scaledE s c t)).2 = 2 := by
  unfold evalI
  rcases wrong_cases t hf with h | h
  · rw [if_pos h]
    cases hv : valueE vs t with
    | ok x => exact .inl rfl
    | error f =>
      rcases wrong_cases _ (scaled_formed s c t hf) with h2 | h2
      · rw [if_pos h2, value_scaled, hv]
        exact .inr (.inl rfl)
      · rw [if_neg (by rw [h2]; decide), h2]
        exact .inr (.inr rfl)
  · rw [if_neg (by rw [h]; decide), wrong_scaled s c t h hf, if_neg (by decide)]
    exact .inr (.inr rfl)
theorem eval_ok0 {vs : Vals} {t : Ex} {x : Int × Int} (h : evalI vs t = (x, 0)) (hne : ∀ f, valueE vs t = .error f → f ≠ 0) : valueE vs t = .ok x := by
  unfold evalI at h
  split at h
  · cases hv : valueE vs t with
    | ok y => rw [hv] at h; injection h with h _; rw [h]
    | error f => rw [hv] at h; injection h with _ h; exact absurd h (hne f hv)
  · rename_i hw; injection h with _ h; exact absurd h hw
theorem appE_err {p : (Int × Int) × Int} {f : Int} (h : appE p = .error f) : f ≠ 0 := by
  unfold appE at h
  split at h
  · cases h
  · injection h with h; subst h; assumption
mutual
theorem value_err (vs : Vals) : ∀ (t : Ex) (f : Int), formedB t = true → valueE vs t = .error f → f ≠ 0
  | .mk op n nm ts, f, hf, hv => by
    rw [formedB] at hf
    rw [valueE] at hv
    by_cases h1 : (op.toList == [110, 117, 109]) = true
    · rw [if_pos h1] at hv; cases hv
    · rw [if_neg h1] at hf hv
      by_cases h2 : (op.toList == [110, 97, 109, 101]) = true
      · rw [if_pos h2] at hv
        split at hv
        · cases hv
        · injection hv with hv; subst hv; decide
      · rw [if_neg h2] at hf hv
        simp only [Bool.and_eq_true, beq_iff_eq] at hf
        obtain ⟨-, hl, -, -, hl2⟩ := hf
        have hV := valueL_err vs ts hl2
        have hn : (valueL vs ts).length = 2 := by rw [← hl]; clear hV hv hl hl2; induction ts with
          | nil => rfl
          | cons t ts ih => rw [valueL, List.length_cons, ih, List.length_cons]
        generalize valueL vs ts = vl at *
        match vl, hn, hv with
        | [a, b], _, hv =>
          cases a with
          | error g => injection hv with hv; subst hv; exact hV _ List.mem_cons_self g rfl
          | ok xa =>
            cases b with
            | error g => injection hv with hv; subst hv; exact hV _ (List.mem_cons_of_mem _ List.mem_cons_self) g rfl
            | ok xb => exact appE_err hv
theorem valueL_err (vs : Vals) : ∀ (ts : List Ex), formedL ts = true → ∀ e ∈ valueL vs ts, ∀ f, e = .error f → f ≠ 0
  | [], _, e, he, _, _ => by rw [valueL] at he; cases he
  | t :: ts, hf, e, he, f, hx => by
    rw [formedL, Bool.and_eq_true] at hf
    rw [valueL] at he
    rcases List.mem_cons.1 he with rfl | he
    · exact value_err vs t f hf.1 hx
    · exact valueL_err vs ts hf.2 e he f hx
end
/-- The scaled value. -/
theorem steep_val {vs : Vals} {s c : Int} {t : Ex} (hf : formedB t = true) {a b : Int × Int} (ha : evalI vs t = (a, 0)) (hb : evalI vs (scaledE s c t) = (b, 0)) :
    rightB a.1 a.2 = true ∧ rightB b.1 b.2 = true ∧ b.1 * a.2 = (s * a.1 + c * a.2) * b.2 := by
  have va := eval_ok0 ha (fun f h => value_err vs t f hf h)
  have vb := eval_ok0 hb (fun f h => value_err vs _ f (scaled_formed s c t hf) h)
  have ra := valueE_right vs t a hf va
  rw [value_scaled, va] at vb
  simp only at vb
  split at vb
  · cases vb
  · rename_i m hm
    obtain ⟨rm, dm⟩ := applyI_right 2 (right_int s) ra hm
    obtain ⟨rb, db⟩ := applyI_right 0 rm (right_int c) vb
    obtain ⟨a0, -⟩ := (rightB_iff _ _).1 ra
    obtain ⟨m0, -⟩ := (rightB_iff _ _).1 rm
    have e1 := (normS_right (Int.mul_pos (show (0 : Int) < 1 by decide) a0) ((mulI_norm (right_int s) ra).symm.trans dm)).2
    have e2 := (normS_right (Int.mul_pos m0 (show (0 : Int) < 1 by decide)) ((addI_norm rm (right_int c)).symm.trans db)).2
    simp only [Int.one_mul, Int.mul_one] at e1 e2
    refine ⟨ra, rb, ?_⟩
    have h : m.2 * (b.1 * a.2) = m.2 * ((s * a.1 + c * a.2) * b.2) := by
      have h1 : b.1 * m.2 * a.2 = (m.1 * a.2 + c * m.2 * a.2) * b.2 := by rw [e2, Int.add_mul, Int.add_mul, Int.add_mul]; simp only [Int.mul_assoc, Int.mul_left_comm, Int.mul_comm]
      rw [e1] at h1
      have h2 : m.2 * (b.1 * a.2) = b.1 * m.2 * a.2 := by simp only [Int.mul_assoc, Int.mul_left_comm, Int.mul_comm]
      rw [h2, h1, Int.add_mul, Int.add_mul, Int.mul_add]
      simp only [Int.mul_assoc, Int.mul_left_comm, Int.mul_comm]
    exact Int.eq_of_mul_eq_mul_left (by omega) h
theorem sub_val {x0 x1 p : Int × Int} (r0 : rightB x0.1 x0.2 = true) (r1 : rightB x1.1 x1.2 = true) (h : evalI [] (opE' subB (numE x0) (numE x1)) = (p, 0)) :
    rightB p.1 p.2 = true ∧ p.1 * (x0.2 * x1.2) = (x0.1 * x1.2 - x1.1 * x0.2) * p.2 := by
  have hf : formedB (opE' subB (numE x0) (numE x1)) = true := by
    rw [show subB = opNm 1 from rfl, formed_op' 1 (by decide), formed_numE, formed_numE, r0, r1]; rfl
  have hv := eval_ok0 h (fun f h => value_err [] _ f hf h)
  rw [show subB = opNm 1 from rfl, value_op [] 1 (by decide), valE_num, valE_num] at hv
  obtain ⟨rp, dp⟩ := applyI_right 1 r0 r1 hv
  obtain ⟨a0, -⟩ := (rightB_iff _ _).1 r0
  obtain ⟨b0, -⟩ := (rightB_iff _ _).1 r1
  exact ⟨rp, (normS_right (Int.mul_pos a0 b0) ((subI_norm r0 r1).symm.trans dp)).2⟩
theorem sign_of {p D N q : Int} (hD : 0 < D) (hq : 0 < q) (h : p * D = N * q) : (0 < p ↔ 0 < N) ∧ (p = 0 ↔ N = 0) := by
  rcases Int.lt_trichotomy N 0 with hn | hn | hn
  · have h1 := Int.mul_neg_of_neg_of_pos hn hq
    have : p < 0 := by
      rcases Int.lt_trichotomy p 0 with h2 | h2 | h2
      · exact h2
      · subst h2; simp at h; omega
      · have := Int.mul_pos h2 hD; omega
    exact ⟨by omega, by omega⟩
  · subst hn
    have : p = 0 := by
      rcases Int.lt_trichotomy p 0 with h2 | h2 | h2
      · have := Int.mul_neg_of_neg_of_pos h2 hD; simp at h; omega
      · exact h2
      · have := Int.mul_pos h2 hD; simp at h; omega
    exact ⟨by omega, by omega⟩
  · have h1 := Int.mul_pos hn hq
    have : 0 < p := by
      rcases Int.lt_trichotomy p 0 with h2 | h2 | h2
      · have := Int.mul_neg_of_neg_of_pos h2 hD; omega
      · subst h2; simp at h; omega
      · exact h2
    exact ⟨by omega, by omega⟩
theorem ring_key (s c a0 b0 a1 b1 d0 d1 : Int) : (s * a0 + c * b0) * d0 * (d1 * b1) - (s * a1 + c * b1) * d1 * (d0 * b0) = (a0 * b1 - a1 * b0) * (s * (d0 * d1)) := by
  have h1 : s * a0 * d0 * (d1 * b1) = a0 * b1 * (s * (d0 * d1)) := by ac_rfl
  have h2 : s * a1 * d1 * (d0 * b0) = a1 * b0 * (s * (d0 * d1)) := by ac_rfl
  have h3 : c * b0 * d0 * (d1 * b1) = c * b1 * d1 * (d0 * b0) := by ac_rfl
  rw [Int.add_mul, Int.add_mul, Int.add_mul, Int.add_mul, Int.sub_mul, h1, h2, h3]
  omega
/-- A part that is scaled keeps the order. -/
theorem steep_sign {s c : Int} (hs : 0 < s) {x0 x1 y0 y1 p q : Int × Int} (rx0 : rightB x0.1 x0.2 = true) (rx1 : rightB x1.1 x1.2 = true) (ry0 : rightB y0.1 y0.2 = true) (ry1 : rightB y1.1 y1.2 = true)
    (e0 : y0.1 * x0.2 = (s * x0.1 + c * x0.2) * y0.2) (e1 : y1.1 * x1.2 = (s * x1.1 + c * x1.2) * y1.2)
    (hp : evalI [] (opE' subB (numE x0) (numE x1)) = (p, 0)) (hq : evalI [] (opE' subB (numE y0) (numE y1)) = (q, 0)) : (0 < p.1 ↔ 0 < q.1) ∧ (p.1 = 0 ↔ q.1 = 0) := by
  obtain ⟨rp, ep⟩ := sub_val rx0 rx1 hp
  obtain ⟨rq, eq⟩ := sub_val ry0 ry1 hq
  obtain ⟨x00, -⟩ := (rightB_iff _ _).1 rx0
  obtain ⟨x10, -⟩ := (rightB_iff _ _).1 rx1
  obtain ⟨y00, -⟩ := (rightB_iff _ _).1 ry0
  obtain ⟨y10, -⟩ := (rightB_iff _ _).1 ry1
  obtain ⟨p0, -⟩ := (rightB_iff _ _).1 rp
  obtain ⟨q0, -⟩ := (rightB_iff _ _).1 rq
  have sp := sign_of (Int.mul_pos x00 x10) p0 ep
  have sq := sign_of (Int.mul_pos y00 y10) q0 eq
  have key : (y0.1 * y1.2 - y1.1 * y0.2) * (x0.2 * x1.2) = (x0.1 * x1.2 - x1.1 * x0.2) * (s * (y0.2 * y1.2)) := by
    have k1 : y0.1 * y1.2 * (x0.2 * x1.2) = (s * x0.1 + c * x0.2) * y0.2 * (y1.2 * x1.2) := by rw [← e0]; simp only [Int.mul_assoc, Int.mul_left_comm, Int.mul_comm]
    have k2 : y1.1 * y0.2 * (x0.2 * x1.2) = (s * x1.1 + c * x1.2) * y1.2 * (y0.2 * x0.2) := by rw [← e1]; simp only [Int.mul_assoc, Int.mul_left_comm, Int.mul_comm]
    rw [Int.sub_mul, k1, k2]
    exact ring_key s c x0.1 x0.2 x1.1 x1.2 y0.2 y1.2
  have sk := sign_of (Int.mul_pos x00 x10) (Int.mul_pos hs (Int.mul_pos y00 y10)) key
  exact ⟨sp.1.trans (sk.1.symm.trans sq.1.symm), sp.2.trans (sk.2.symm.trans sq.2.symm)⟩
mutual
theorem value_I2 {S : Nat → Prop} {w : World} {vs : Vals} (hr : VR vs) : ∀ (t : Ex) (v : Value) (x : Int × Int), Rd S w t v → valueE vs t = .ok x → I2 x
  | .mk op n nm ts, v, x, h, hv => by
    unfold Rd at h
    obtain ⟨base, cap, -, hn, -, hts⟩ := h
    rw [valueE] at hv
    by_cases h1 : (op.toList == [110, 117, 109]) = true
    · rw [if_pos h1] at hv
      injection hv with hv
      subst hv
      exact hn
    · rw [if_neg h1] at hv
      by_cases h2 : (op.toList == [110, 97, 109, 101]) = true
      · rw [if_pos h2] at hv
        split at hv
        · rename_i k hk
          injection hv with hv
          subst hv
          have := look_range hr hk
          exact I2.int this.1 this.2
        · cases hv
      · rw [if_neg h2] at hv
        have hV : ∀ e ∈ valueL vs ts, ∀ x, e = .ok x → I2 x := by
          rcases hts with rfl | ⟨b, -, -, hl⟩
          · intro e he; rw [valueL] at he; cases he
          · exact valueL_I2 hr ts b 0 hl
        generalize valueL vs ts = vl at *
        match vl, hv with
        | [a, b], hv =>
          cases a with
          | error f => cases hv
          | ok xa =>
            cases b with
            | error f => cases hv
            | ok xb =>
              have h3 := applyI_I2 (opIx op).toNat xa xb (hV _ List.mem_cons_self xa rfl) (hV _ (List.mem_cons_of_mem _ List.mem_cons_self) xb rfl)
              simp only at hv
              unfold appE at hv
              split at hv
              · injection hv with hv; rw [← hv]; exact h3
              · cases hv
        | [], hv => cases hv
        | [_], hv => cases hv
        | _ :: _ :: _ :: _, hv => cases hv
theorem valueL_I2 {S : Nat → Prop} {w : World} {vs : Vals} (hr : VR vs) : ∀ (ts : List Ex) (b k : Nat), RdL S w b k ts → ∀ e ∈ valueL vs ts, ∀ x, e = .ok x → I2 x
  | [], _, _, _, e, he, _, _ => by rw [valueL] at he; cases he
  | t :: ts, b, k, h, e, he, x, hx => by
    unfold RdL at h
    obtain ⟨⟨c, -, hc⟩, hl⟩ := h
    rw [valueL] at he
    rcases List.mem_cons.1 he with rfl | he
    · exact value_I2 hr t _ x hc hx
    · exact valueL_I2 hr ts b (k + 1) hl e he x hx
end
theorem evalI_I2 {S : Nat → Prop} {w : World} {vs : Vals} {t : Ex} {v : Value} {x : Int × Int} (hr : VR vs) (h : Rd S w t v) (hf : formedB t = true) (he : evalI vs t = (x, 0)) : I2 x :=
  value_I2 hr t v x h (eval_ok0 he (fun f h => value_err vs t f hf h))
end Go.Proofs.Ytgkdeknfmmgbdaa

namespace Go.Proofs.Ytgkdeknfmmgbdaa
set_option linter.unusedVariables false
set_option linter.unusedSimpArgs false
open Go.RowKit

theorem RiR.I2 {a : Int × Int} (h : RiR a) : I2 a := ⟨h.1.1, h.1.2.1, h.1.2.2.1, h.1.2.2.2⟩
theorem RiR.pos {a : Int × Int} (h : RiR a) : 0 < a.2 := ((rightB_iff _ _).1 h.2).1
theorem RiR.cop {a : Int × Int} (h : RiR a) : Int.gcd a.1 a.2 = 1 := ((rightB_iff _ _).1 h.2).2

theorem eval2 (vs : Vals) (i : Nat) (h : i < 6) {a b : Int × Int} (ha : RiR a) (hb : RiR b) : evalI vs (opE' (opNm i) (numE a) (numE b)) = applyI i a b := by
  have hf : formedB (opE' (opNm i) (numE a) (numE b)) = true := by rw [formed_op' i h, formed_numE, formed_numE, ha.2, hb.2]; rfl
  have hs : (opE' (opNm i) (numE a) (numE b)).parts = 3 ∧ (opE' (opNm i) (numE a) (numE b)).depth = 2 := by
    unfold opE' numE leaf
    rw [Ex.parts, Ex.partsL, Ex.partsL, Ex.partsL, Ex.parts, Ex.parts, Ex.partsL, Ex.depth, Ex.depthL, Ex.depthL, Ex.depthL, Ex.depth, Ex.depth, Ex.depthL]
    exact ⟨by omega, by omega⟩
  have hw : wrongI (opE' (opNm i) (numE a) (numE b)) = 0 := by
    unfold wrongI
    rw [if_pos (by rw [hs.1, hs.2]; exact ⟨by decide, by decide⟩), if_pos hf]
  unfold evalI
  rw [if_pos hw, value_op vs i h, valE_num, valE_num]
  simp only
  unfold appE applyI
  by_cases h3 : i = 3 ∧ b.1 = 0
  · rw [if_pos h3]; rfl
  · rw [if_neg h3]
    cases hk : (doI i a b).2
    · rw [if_neg (by simp)]; rfl
    · rw [if_pos rfl]; rfl

theorem cmp_mul {a b : Int × Int} (ha : RiR a) (hb : RiR b) : cmpI a b = cmpZ (a.1 * b.2) (b.1 * a.2) := by
  have a0 := ha.pos
  have b0 := hb.pos
  unfold cmpI
  rw [if_pos (by rw [ha.2, hb.2]; rfl)]
  have s1 : sizeZ a.2 = a.2 := by unfold sizeZ; rw [if_neg (by omega)]
  have s2 : sizeZ b.2 = b.2 := by unfold sizeZ; rw [if_neg (by omega)]
  rw [s1, s2]
  by_cases h1 : a.1 < 0
  · by_cases h2 : b.1 < 0
    · rw [if_pos (by rw [decide_eq_true h1, decide_eq_true h2]), if_pos h1]
      unfold sizeZ
      rw [if_pos h1, if_pos h2, Int.neg_mul, Int.neg_mul]
      generalize a.1 * b.2 = x
      generalize b.1 * a.2 = y
      unfold cmpZ
      split <;> split <;> (try split) <;> (try split) <;> omega
    · rw [if_neg (by rw [decide_eq_true h1, decide_eq_false h2]; decide)]
      have h3 := Int.mul_neg_of_neg_of_pos h1 b0
      have h4 := Int.mul_nonneg (show 0 ≤ b.1 by omega) (show 0 ≤ a.2 by omega)
      unfold cmpZ
      rw [if_pos (by omega), if_pos (by omega)]
  · by_cases h2 : b.1 < 0
    · rw [if_neg (by rw [decide_eq_false h1, decide_eq_true h2]; decide)]
      have h3 := Int.mul_neg_of_neg_of_pos h2 a0
      have h4 := Int.mul_nonneg (show 0 ≤ a.1 by omega) (show 0 ≤ b.2 by omega)
      unfold cmpZ
      rw [if_neg (by omega), if_pos (by omega), if_neg (by omega), if_pos (by omega)]
    · rw [if_pos (by rw [decide_eq_false h1, decide_eq_false h2]), if_neg h1]
      unfold sizeZ
      rw [if_neg h1, if_neg h2]

theorem right_eq {a b : Int × Int} (ha : RiR a) (hb : RiR b) (h : a.1 * b.2 = b.1 * a.2) : a = b := by
  obtain ⟨h1, h2⟩ := norm_unique ha.pos hb.pos ha.cop h
  rw [hb.cop] at h1 h2
  simp at h1 h2
  exact Prod.ext h1.symm h2.symm
theorem cmpZ_lt {x y : Int} (h : x < y) : cmpZ x y = -1 := by unfold cmpZ; rw [if_pos h]
theorem cmpZ_gt {x y : Int} (h : y < x) : cmpZ x y = 1 := by unfold cmpZ; rw [if_neg (by omega), if_pos h]
theorem if_t {A : Type} {c : Prop} [Decidable c] {a : A} : (if c then a else a) = a := by split <;> rfl
theorem min_comm' {a b : Int × Int} (ha : RiR a) (hb : RiR b) : minI a b = minI b a := by
  unfold minI
  rw [cmp_mul ha hb, cmp_mul hb ha]
  have he := right_eq ha hb
  generalize a.1 * b.2 = x at *
  generalize b.1 * a.2 = y at *
  rcases Int.lt_trichotomy x y with h | h | h
  · rw [cmpZ_lt h, cmpZ_gt h]; rfl
  · rw [he h, if_t, if_t]
  · rw [cmpZ_gt h, cmpZ_lt h]; rfl
theorem max_comm' {a b : Int × Int} (ha : RiR a) (hb : RiR b) : maxI a b = maxI b a := by
  unfold maxI
  rw [cmp_mul ha hb, cmp_mul hb ha]
  have he := right_eq ha hb
  generalize a.1 * b.2 = x at *
  generalize b.1 * a.2 = y at *
  rcases Int.lt_trichotomy x y with h | h | h
  · rw [cmpZ_lt h, cmpZ_gt h]; rfl
  · rw [he h, if_t, if_t]
  · rw [cmpZ_gt h, cmpZ_lt h]; rfl
/-- The four operations that commute. -/
def comI : Nat → Nat
  | 0 => 0 | 1 => 2 | 2 => 4 | _ => 5
theorem apply_comm (k : Nat) (hk : k < 4) {a b : Int × Int} (ha : RiR a) (hb : RiR b) : applyI (comI k) a b = applyI (comI k) b a := by
  match k, hk with
  | 0, _ =>
    have h : addI a b = addI b a := by rw [addI_norm ha.2 hb.2, addI_norm hb.2 ha.2, Int.add_comm, Int.mul_comm a.2]
    have h' : doI 0 a b = doI 0 b a := h
    show applyI 0 a b = applyI 0 b a
    unfold applyI
    rw [h', if_neg (show ¬ (_ = 3 ∧ b.1 = 0) by simp), if_neg (show ¬ (_ = 3 ∧ a.1 = 0) by simp)]
  | 1, _ =>
    have h : mulI a b = mulI b a := by rw [mulI_norm ha.2 hb.2, mulI_norm hb.2 ha.2, Int.mul_comm a.1, Int.mul_comm a.2]
    have h' : doI 2 a b = doI 2 b a := h
    show applyI 2 a b = applyI 2 b a
    unfold applyI
    rw [h', if_neg (show ¬ (_ = 3 ∧ b.1 = 0) by simp), if_neg (show ¬ (_ = 3 ∧ a.1 = 0) by simp)]
  | 2, _ =>
    have h' : doI 4 a b = doI 4 b a := min_comm' ha hb
    show applyI 4 a b = applyI 4 b a
    unfold applyI
    rw [h', if_neg (show ¬ (_ = 3 ∧ b.1 = 0) by simp), if_neg (show ¬ (_ = 3 ∧ a.1 = 0) by simp)]
  | 3, _ =>
    have h' : doI 5 a b = doI 5 b a := max_comm' ha hb
    show applyI 5 a b = applyI 5 b a
    unfold applyI
    rw [h', if_neg (show ¬ (_ = 3 ∧ b.1 = 0) by simp), if_neg (show ¬ (_ = 3 ∧ a.1 = 0) by simp)]
theorem apply_pick (k : Nat) (hk : 2 ≤ k) (hk2 : k < 4) (a b : Int × Int) : (applyI (comI k) a b).1 = a ∨ (applyI (comI k) a b).1 = b := by
  match k, hk, hk2 with
  | 2, _, _ =>
    show (applyI 4 a b).1 = a ∨ (applyI 4 a b).1 = b
    have h' : doI 4 a b = minI a b := rfl
    unfold applyI
    rw [if_neg (by simp), h']
    unfold minI
    rw [if_pos rfl]
    simp only
    split
    · exact .inl rfl
    · exact .inr rfl
  | 3, _, _ =>
    show (applyI 5 a b).1 = a ∨ (applyI 5 a b).1 = b
    have h' : doI 5 a b = maxI a b := rfl
    unfold applyI
    rw [if_neg (by simp), h']
    unfold maxI
    rw [if_pos rfl]
    simp only
    split
    · exact .inl rfl
    · exact .inr rfl
theorem apply_self {a : Int × Int} (ha : RiR a) : applyI 1 a a = ((0, 1), 0) := by
  have h0 := Int.mul_pos ha.pos ha.pos
  have h : subI a a = ((0, 1), true) := by
    rw [subI_norm ha.2 ha.2, Int.sub_self, normS_of (p := 0) (q := 1) (by decide) h0 (by decide) (by simp), if_neg (by decide)]
  have h' : doI 1 a a = ((0, 1), true) := h
  unfold applyI
  rw [h', if_neg (by simp)]
  rfl
/-- The reference's four operations. -/
def refI : Nat → (Int × Int) → (Int × Int) → (Int × Int) × Bool
  | 0, a, b => refOp a b (a.1 * b.2 + b.1 * a.2) (a.2 * b.2)
  | 1, a, b => refOp a b (a.1 * b.2 - b.1 * a.2) (a.2 * b.2)
  | 2, a, b => refOp a b (a.1 * b.1) (a.2 * b.2)
  | _, a, b => refQuo a b
theorem ref_do (i : Nat) (hi : i < 4) {a b : Int × Int} (ha : RiR a) (hb : RiR b) (h : ¬ (i = 3 ∧ b.1 = 0)) : refI i a b = doI i a b := by
  have hr : (rightB a.1 a.2 && rightB b.1 b.2) = true := by rw [ha.2, hb.2]; rfl
  match i, hi with
  | 0, _ => show refOp _ _ _ _ = addI a b; unfold refOp; rw [if_pos hr, addI_norm ha.2 hb.2]
  | 1, _ => show refOp _ _ _ _ = subI a b; unfold refOp; rw [if_pos hr, subI_norm ha.2 hb.2]
  | 2, _ => show refOp _ _ _ _ = mulI a b; unfold refOp; rw [if_pos hr, mulI_norm ha.2 hb.2]
  | 3, _ =>
    have h0 : ¬ b.1 = 0 := fun e => h ⟨rfl, e⟩
    show refQuo a b = quoI a b
    unfold refQuo refOp
    rw [if_neg h0, if_pos hr, quoI_norm ha.2 hb.2 h0]
theorem apply_ref (i : Nat) (hi : i < 4) {a b : Int × Int} (ha : RiR a) (hb : RiR b) :
    applyI i a b = if i = 3 ∧ b.1 = 0 then ((0, 0), 15) else if (refI i a b).2 then ((refI i a b).1, 0) else ((0, 0), 3) := by
  unfold applyI
  by_cases h : i = 3 ∧ b.1 = 0
  · rw [if_pos h, if_pos h]
  · rw [if_neg h, if_neg h, ref_do i hi ha hb h]
end Go.Proofs.Ytgkdeknfmmgbdaa

namespace Go.Proofs.Ytgkdeknfmmgbdaa
set_option linter.unusedVariables false
set_option linter.unusedSimpArgs false
open Go.RowKit

theorem refCmp_eq {a b : Int × Int} (ha : RiR a) (hb : RiR b) : refCmp a b = cmpI a b := by
  rw [cmp_mul ha hb]
  have hr : (rightB a.1 a.2 && rightB b.1 b.2) = true := by rw [ha.2, hb.2]; rfl
  unfold refCmp cmpZ
  rw [if_pos hr]
  generalize a.1 * b.2 = x
  generalize b.1 * a.2 = y
  split <;> split <;> (try split) <;> (try split) <;> omega

set_option maxRecDepth 100000 in
set_option maxHeartbeats 1000000 in
theorem rApply0 (a b : Int × Int) (ha : RiR a) (hb : RiR b) (w : World)   :
    Calls Try.prog 75 #[.string (opNm 0), rv a, rv b] w fun e w' => e = .returned (rev (applyI 0 a b)) ∧ Ext w w' := by
  have HCM := Lib.hid (fun W => rCmp_any a b ha.1 hb.1 W)
  have HOP : Hid (∀ W, Calls Try.prog 25 #[rv a, rv b] W fun e w' => e = .returned (rbv (refI 0 a b)) ∧ Ext W w') := Lib.hid (fun W => rAdd_any a b ha.1 hb.1 W)
  have HRES := Lib.hid (apply_ref 0 (by decide) ha hb)
  have hn : ¬ ((0 : Nat) = 3 ∧ b.1 = 0) := (by simp)
  rw [if_neg hn] at HRES
  obtain ⟨⟨⟨r1, r2⟩, ok⟩, hr⟩ : ∃ y, y = refI 0 a b := ⟨_, rfl⟩
  rw [← hr] at HOP HRES
  obtain ⟨c, hc⟩ : ∃ c, c = refCmp a b := ⟨_, rfl⟩
  rw [← hc] at HCM
  obtain ⟨a1, a2⟩ := a; obtain ⟨b1, b2⟩ := b
  rw [HRES.out]
  clear hr hc ha hb HRES
  clear hn
  cases ok
  · simp only [opNm]; go_enter Try.func75, Try.ntmps75
    go_wp2_with (first
      | (go_at_call 98; (with_reducible refine (HCM.out _).mono ?_); rintro e w2 ⟨rfl, hb⟩; obtain ⟨hc, hf⟩ := hb.cells; have hz := hb.size; simp at hz; have z1 : w.heap.size + 1 + 1 < w2.heap.size := (by omega); have z1a : w.heap.size < w2.heap.size := (by omega); have z1b : w.heap.size + 1 < w2.heap.size := (by omega); have z1c : w.heap.size + 1 + 1 < w2.heap.size + 1 := (by omega); have z1d : w.heap.size < w2.heap.size + 1 := (by omega); have z1e : w.heap.size + 1 < w2.heap.size + 1 := (by omega))
      | (go_at_call 25; (with_reducible refine (HOP.out _).mono ?_); rintro e w3 ⟨rfl, hb3⟩; obtain ⟨hc3, hf3⟩ := hb3.cells; have hz3 := hb3.size; simp at hz3; have z3 : w2.heap.size < w3.heap.size := (by omega); have z4 : w.heap.size + 1 + 1 < w3.heap.size := (by omega); have z4a : w.heap.size < w3.heap.size := (by omega); have z4b : w.heap.size + 1 < w3.heap.size := (by omega)))
    have hle : w.heap.size ≤ w.heap.size + 1 + 1 := by omega
    exact bodyPost_ret (v := rev ((0, 0), 3)) (by simp [results, Try.results75, go_sem, hc, z1, z1c, hc3, z3, z4]) rfl ⟨rfl, (by with_reducible repeat (first | exact Ext.refl _ | assumption | apply Ext.drewN | apply Ext.drew | apply Ext.alloc | (refine Ext.setCell ?_ (by simp <;> omega) _) | (refine Ext.trans ?_ (by assumption))))⟩
  · simp only [opNm]; go_enter Try.func75, Try.ntmps75
    go_wp2_with (first
      | (go_at_call 98; (with_reducible refine (HCM.out _).mono ?_); rintro e w2 ⟨rfl, hb⟩; obtain ⟨hc, hf⟩ := hb.cells; have hz := hb.size; simp at hz; have z1 : w.heap.size + 1 + 1 < w2.heap.size := (by omega); have z1a : w.heap.size < w2.heap.size := (by omega); have z1b : w.heap.size + 1 < w2.heap.size := (by omega); have z1c : w.heap.size + 1 + 1 < w2.heap.size + 1 := (by omega); have z1d : w.heap.size < w2.heap.size + 1 := (by omega); have z1e : w.heap.size + 1 < w2.heap.size + 1 := (by omega))
      | (go_at_call 25; (with_reducible refine (HOP.out _).mono ?_); rintro e w3 ⟨rfl, hb3⟩; obtain ⟨hc3, hf3⟩ := hb3.cells; have hz3 := hb3.size; simp at hz3; have z3 : w2.heap.size < w3.heap.size := (by omega); have z4 : w.heap.size + 1 + 1 < w3.heap.size := (by omega); have z4a : w.heap.size < w3.heap.size := (by omega); have z4b : w.heap.size + 1 < w3.heap.size := (by omega)))
    exact bodyPost_ret (v := rev ((r1, r2), 0)) (by simp [results, Try.results75, go_sem, hc, z1, z1c, hc3, z3, z4]) rfl ⟨rfl, (by with_reducible repeat (first | exact Ext.refl _ | assumption | apply Ext.drewN | apply Ext.drew | apply Ext.alloc | (refine Ext.setCell ?_ (by simp <;> omega) _) | (refine Ext.trans ?_ (by assumption))))⟩
set_option maxRecDepth 100000 in
set_option maxHeartbeats 1000000 in
theorem rApply1 (a b : Int × Int) (ha : RiR a) (hb : RiR b) (w : World)   :
    Calls Try.prog 75 #[.string (opNm 1), rv a, rv b] w fun e w' => e = .returned (rev (applyI 1 a b)) ∧ Ext w w' := by
  have HCM := Lib.hid (fun W => rCmp_any a b ha.1 hb.1 W)
  have HOP : Hid (∀ W, Calls Try.prog 26 #[rv a, rv b] W fun e w' => e = .returned (rbv (refI 1 a b)) ∧ Ext W w') := Lib.hid (fun W => rSub_any a b ha.1 hb.1 W)
  have HRES := Lib.hid (apply_ref 1 (by decide) ha hb)
  have hn : ¬ ((1 : Nat) = 3 ∧ b.1 = 0) := (by simp)
  rw [if_neg hn] at HRES
  obtain ⟨⟨⟨r1, r2⟩, ok⟩, hr⟩ : ∃ y, y = refI 1 a b := ⟨_, rfl⟩
  rw [← hr] at HOP HRES
  obtain ⟨c, hc⟩ : ∃ c, c = refCmp a b := ⟨_, rfl⟩
  rw [← hc] at HCM
  obtain ⟨a1, a2⟩ := a; obtain ⟨b1, b2⟩ := b
  rw [HRES.out]
  clear hr hc ha hb HRES
  clear hn
  cases ok
  · simp only [opNm]; go_enter Try.func75, Try.ntmps75
    go_wp2_with (first
      | (go_at_call 98; (with_reducible refine (HCM.out _).mono ?_); rintro e w2 ⟨rfl, hb⟩; obtain ⟨hc, hf⟩ := hb.cells; have hz := hb.size; simp at hz; have z1 : w.heap.size + 1 + 1 < w2.heap.size := (by omega); have z1a : w.heap.size < w2.heap.size := (by omega); have z1b : w.heap.size + 1 < w2.heap.size := (by omega); have z1c : w.heap.size + 1 + 1 < w2.heap.size + 1 := (by omega); have z1d : w.heap.size < w2.heap.size + 1 := (by omega); have z1e : w.heap.size + 1 < w2.heap.size + 1 := (by omega))
      | (go_at_call 26; (with_reducible refine (HOP.out _).mono ?_); rintro e w3 ⟨rfl, hb3⟩; obtain ⟨hc3, hf3⟩ := hb3.cells; have hz3 := hb3.size; simp at hz3; have z3 : w2.heap.size < w3.heap.size := (by omega); have z4 : w.heap.size + 1 + 1 < w3.heap.size := (by omega); have z4a : w.heap.size < w3.heap.size := (by omega); have z4b : w.heap.size + 1 < w3.heap.size := (by omega)))
    have hle : w.heap.size ≤ w.heap.size + 1 + 1 := by omega
    exact bodyPost_ret (v := rev ((0, 0), 3)) (by simp [results, Try.results75, go_sem, hc, z1, z1c, hc3, z3, z4]) rfl ⟨rfl, (by with_reducible repeat (first | exact Ext.refl _ | assumption | apply Ext.drewN | apply Ext.drew | apply Ext.alloc | (refine Ext.setCell ?_ (by simp <;> omega) _) | (refine Ext.trans ?_ (by assumption))))⟩
  · simp only [opNm]; go_enter Try.func75, Try.ntmps75
    go_wp2_with (first
      | (go_at_call 98; (with_reducible refine (HCM.out _).mono ?_); rintro e w2 ⟨rfl, hb⟩; obtain ⟨hc, hf⟩ := hb.cells; have hz := hb.size; simp at hz; have z1 : w.heap.size + 1 + 1 < w2.heap.size := (by omega); have z1a : w.heap.size < w2.heap.size := (by omega); have z1b : w.heap.size + 1 < w2.heap.size := (by omega); have z1c : w.heap.size + 1 + 1 < w2.heap.size + 1 := (by omega); have z1d : w.heap.size < w2.heap.size + 1 := (by omega); have z1e : w.heap.size + 1 < w2.heap.size + 1 := (by omega))
      | (go_at_call 26; (with_reducible refine (HOP.out _).mono ?_); rintro e w3 ⟨rfl, hb3⟩; obtain ⟨hc3, hf3⟩ := hb3.cells; have hz3 := hb3.size; simp at hz3; have z3 : w2.heap.size < w3.heap.size := (by omega); have z4 : w.heap.size + 1 + 1 < w3.heap.size := (by omega); have z4a : w.heap.size < w3.heap.size := (by omega); have z4b : w.heap.size + 1 < w3.heap.size := (by omega)))
    exact bodyPost_ret (v := rev ((r1, r2), 0)) (by simp [results, Try.results75, go_sem, hc, z1, z1c, hc3, z3, z4]) rfl ⟨rfl, (by with_reducible repeat (first | exact Ext.refl _ | assumption | apply Ext.drewN | apply Ext.drew | apply Ext.alloc | (refine Ext.setCell ?_ (by simp <;> omega) _) | (refine Ext.trans ?_ (by assumption))))⟩
set_option maxRecDepth 100000 in
set_option maxHeartbeats 1000000 in
theorem rApply2 (a b : Int × Int) (ha : RiR a) (hb : RiR b) (w : World)   :
    Calls Try.prog 75 #[.string (opNm 2), rv a, rv b] w fun e w' => e = .returned (rev (applyI 2 a b)) ∧ Ext w w' := by
  have HCM := Lib.hid (fun W => rCmp_any a b ha.1 hb.1 W)
  have HOP : Hid (∀ W, Calls Try.prog 27 #[rv a, rv b] W fun e w' => e = .returned (rbv (refI 2 a b)) ∧ Ext W w') := Lib.hid (fun W => rMul_any a b ha.1 hb.1 W)
  have HRES := Lib.hid (apply_ref 2 (by decide) ha hb)
  have hn : ¬ ((2 : Nat) = 3 ∧ b.1 = 0) := (by simp)
  rw [if_neg hn] at HRES
  obtain ⟨⟨⟨r1, r2⟩, ok⟩, hr⟩ : ∃ y, y = refI 2 a b := ⟨_, rfl⟩
  rw [← hr] at HOP HRES
  obtain ⟨c, hc⟩ : ∃ c, c = refCmp a b := ⟨_, rfl⟩
  rw [← hc] at HCM
  obtain ⟨a1, a2⟩ := a; obtain ⟨b1, b2⟩ := b
  rw [HRES.out]
  clear hr hc ha hb HRES
  clear hn
  cases ok
  · simp only [opNm]; go_enter Try.func75, Try.ntmps75
    go_wp2_with (first
      | (go_at_call 98; (with_reducible refine (HCM.out _).mono ?_); rintro e w2 ⟨rfl, hb⟩; obtain ⟨hc, hf⟩ := hb.cells; have hz := hb.size; simp at hz; have z1 : w.heap.size + 1 + 1 < w2.heap.size := (by omega); have z1a : w.heap.size < w2.heap.size := (by omega); have z1b : w.heap.size + 1 < w2.heap.size := (by omega); have z1c : w.heap.size + 1 + 1 < w2.heap.size + 1 := (by omega); have z1d : w.heap.size < w2.heap.size + 1 := (by omega); have z1e : w.heap.size + 1 < w2.heap.size + 1 := (by omega))
      | (go_at_call 27; (with_reducible refine (HOP.out _).mono ?_); rintro e w3 ⟨rfl, hb3⟩; obtain ⟨hc3, hf3⟩ := hb3.cells; have hz3 := hb3.size; simp at hz3; have z3 : w2.heap.size < w3.heap.size := (by omega); have z4 : w.heap.size + 1 + 1 < w3.heap.size := (by omega); have z4a : w.heap.size < w3.heap.size := (by omega); have z4b : w.heap.size + 1 < w3.heap.size := (by omega)))
    have hle : w.heap.size ≤ w.heap.size + 1 + 1 := by omega
    exact bodyPost_ret (v := rev ((0, 0), 3)) (by simp [results, Try.results75, go_sem, hc, z1, z1c, hc3, z3, z4]) rfl ⟨rfl, (by with_reducible repeat (first | exact Ext.refl _ | assumption | apply Ext.drewN | apply Ext.drew | apply Ext.alloc | (refine Ext.setCell ?_ (by simp <;> omega) _) | (refine Ext.trans ?_ (by assumption))))⟩
  · simp only [opNm]; go_enter Try.func75, Try.ntmps75
    go_wp2_with (first
      | (go_at_call 98; (with_reducible refine (HCM.out _).mono ?_); rintro e w2 ⟨rfl, hb⟩; obtain ⟨hc, hf⟩ := hb.cells; have hz := hb.size; simp at hz; have z1 : w.heap.size + 1 + 1 < w2.heap.size := (by omega); have z1a : w.heap.size < w2.heap.size := (by omega); have z1b : w.heap.size + 1 < w2.heap.size := (by omega); have z1c : w.heap.size + 1 + 1 < w2.heap.size + 1 := (by omega); have z1d : w.heap.size < w2.heap.size + 1 := (by omega); have z1e : w.heap.size + 1 < w2.heap.size + 1 := (by omega))
      | (go_at_call 27; (with_reducible refine (HOP.out _).mono ?_); rintro e w3 ⟨rfl, hb3⟩; obtain ⟨hc3, hf3⟩ := hb3.cells; have hz3 := hb3.size; simp at hz3; have z3 : w2.heap.size < w3.heap.size := (by omega); have z4 : w.heap.size + 1 + 1 < w3.heap.size := (by omega); have z4a : w.heap.size < w3.heap.size := (by omega); have z4b : w.heap.size + 1 < w3.heap.size := (by omega)))
    exact bodyPost_ret (v := rev ((r1, r2), 0)) (by simp [results, Try.results75, go_sem, hc, z1, z1c, hc3, z3, z4]) rfl ⟨rfl, (by with_reducible repeat (first | exact Ext.refl _ | assumption | apply Ext.drewN | apply Ext.drew | apply Ext.alloc | (refine Ext.setCell ?_ (by simp <;> omega) _) | (refine Ext.trans ?_ (by assumption))))⟩
set_option maxRecDepth 100000 in
set_option maxHeartbeats 1000000 in
theorem rApply3 (a b : Int × Int) (ha : RiR a) (hb : RiR b) (w : World) (h0 : ¬ b.1 = 0) :
    Calls Try.prog 75 #[.string (opNm 3), rv a, rv b] w fun e w' => e = .returned (rev (applyI 3 a b)) ∧ Ext w w' := by
  have HCM := Lib.hid (fun W => rCmp_any a b ha.1 hb.1 W)
  have HOP : Hid (∀ W, Calls Try.prog 28 #[rv a, rv b] W fun e w' => e = .returned (rbv (refI 3 a b)) ∧ Ext W w') := Lib.hid (fun W => rQuo_any a b ha.1 hb.1 W)
  have HRES := Lib.hid (apply_ref 3 (by decide) ha hb)
  have hn : ¬ ((3 : Nat) = 3 ∧ b.1 = 0) := (fun h => h0 h.2)
  rw [if_neg hn] at HRES
  obtain ⟨⟨⟨r1, r2⟩, ok⟩, hr⟩ : ∃ y, y = refI 3 a b := ⟨_, rfl⟩
  rw [← hr] at HOP HRES
  obtain ⟨c, hc⟩ : ∃ c, c = refCmp a b := ⟨_, rfl⟩
  rw [← hc] at HCM
  obtain ⟨a1, a2⟩ := a; obtain ⟨b1, b2⟩ := b
  rw [HRES.out]
  clear hr hc ha hb HRES
  have h9 : (b1 == 0) = false := (by rw [beq_eq_false_iff_ne]; exact h0); clear h0 hn
  cases ok
  · simp only [opNm]; go_enter Try.func75, Try.ntmps75
    go_wp2_with (first
      | (go_at_call 98; (with_reducible refine (HCM.out _).mono ?_); rintro e w2 ⟨rfl, hb⟩; obtain ⟨hc, hf⟩ := hb.cells; have hz := hb.size; simp at hz; have z1 : w.heap.size + 1 + 1 < w2.heap.size := (by omega); have z1a : w.heap.size < w2.heap.size := (by omega); have z1b : w.heap.size + 1 < w2.heap.size := (by omega); have z1c : w.heap.size + 1 + 1 < w2.heap.size + 1 := (by omega); have z1d : w.heap.size < w2.heap.size + 1 := (by omega); have z1e : w.heap.size + 1 < w2.heap.size + 1 := (by omega))
      | (go_at_call 28; (with_reducible refine (HOP.out _).mono ?_); rintro e w3 ⟨rfl, hb3⟩; obtain ⟨hc3, hf3⟩ := hb3.cells; have hz3 := hb3.size; simp at hz3; have z3 : w2.heap.size < w3.heap.size := (by omega); have z4 : w.heap.size + 1 + 1 < w3.heap.size := (by omega); have z4a : w.heap.size < w3.heap.size := (by omega); have z4b : w.heap.size + 1 < w3.heap.size := (by omega)))
    have hle : w.heap.size ≤ w.heap.size + 1 + 1 := by omega
    exact bodyPost_ret (v := rev ((0, 0), 3)) (by simp [results, Try.results75, go_sem, hc, z1, z1c, hc3, z3, z4]) rfl ⟨rfl, (by with_reducible repeat (first | exact Ext.refl _ | assumption | apply Ext.drewN | apply Ext.drew | apply Ext.alloc | (refine Ext.setCell ?_ (by simp <;> omega) _) | (refine Ext.trans ?_ (by assumption))))⟩
  · simp only [opNm]; go_enter Try.func75, Try.ntmps75
    go_wp2_with (first
      | (go_at_call 98; (with_reducible refine (HCM.out _).mono ?_); rintro e w2 ⟨rfl, hb⟩; obtain ⟨hc, hf⟩ := hb.cells; have hz := hb.size; simp at hz; have z1 : w.heap.size + 1 + 1 < w2.heap.size := (by omega); have z1a : w.heap.size < w2.heap.size := (by omega); have z1b : w.heap.size + 1 < w2.heap.size := (by omega); have z1c : w.heap.size + 1 + 1 < w2.heap.size + 1 := (by omega); have z1d : w.heap.size < w2.heap.size + 1 := (by omega); have z1e : w.heap.size + 1 < w2.heap.size + 1 := (by omega))
      | (go_at_call 28; (with_reducible refine (HOP.out _).mono ?_); rintro e w3 ⟨rfl, hb3⟩; obtain ⟨hc3, hf3⟩ := hb3.cells; have hz3 := hb3.size; simp at hz3; have z3 : w2.heap.size < w3.heap.size := (by omega); have z4 : w.heap.size + 1 + 1 < w3.heap.size := (by omega); have z4a : w.heap.size < w3.heap.size := (by omega); have z4b : w.heap.size + 1 < w3.heap.size := (by omega)))
    exact bodyPost_ret (v := rev ((r1, r2), 0)) (by simp [results, Try.results75, go_sem, hc, z1, z1c, hc3, z3, z4]) rfl ⟨rfl, (by with_reducible repeat (first | exact Ext.refl _ | assumption | apply Ext.drewN | apply Ext.drew | apply Ext.alloc | (refine Ext.setCell ?_ (by simp <;> omega) _) | (refine Ext.trans ?_ (by assumption))))⟩

set_option maxRecDepth 100000 in
set_option maxHeartbeats 1000000 in
theorem rApply_zero (a b : Int × Int) (ha : RiR a) (hb : RiR b) (w : World) (h0 : b.1 = 0) :
    Calls Try.prog 75 #[.string (opNm 3), rv a, rv b] w fun e w' => e = .returned (rev (applyI 3 a b)) ∧ Ext w w' := by
  have HCM := Lib.hid (fun W => rCmp_any a b ha.1 hb.1 W)
  have HRES := Lib.hid (apply_ref 3 (by decide) ha hb)
  rw [if_pos ⟨rfl, h0⟩] at HRES
  obtain ⟨c, hc⟩ : ∃ c, c = refCmp a b := ⟨_, rfl⟩
  rw [← hc] at HCM
  obtain ⟨a1, a2⟩ := a; obtain ⟨b1, b2⟩ := b
  rw [HRES.out]
  simp only at h0
  subst h0
  clear hc ha hb HRES
  simp only [opNm]; go_enter Try.func75, Try.ntmps75
  go_wp2_with (go_at_call 98; (with_reducible refine (HCM.out _).mono ?_); rintro e w2 ⟨rfl, hb⟩; obtain ⟨hc, hf⟩ := hb.cells; have hz := hb.size; simp at hz; have z1 : w.heap.size + 1 + 1 < w2.heap.size := (by omega); have z1a : w.heap.size < w2.heap.size := (by omega); have z1b : w.heap.size + 1 < w2.heap.size := (by omega); have z1c : w.heap.size + 1 + 1 < w2.heap.size + 1 := (by omega); have z1d : w.heap.size < w2.heap.size + 1 := (by omega); have z1e : w.heap.size + 1 < w2.heap.size + 1 := (by omega))
  exact bodyPost_ret (v := rev ((0, 0), 15)) (by simp [results, Try.results75, go_sem, hc, z1]) rfl ⟨rfl, (by with_reducible repeat (first | exact Ext.refl _ | assumption | apply Ext.drewN | apply Ext.drew | apply Ext.alloc | (refine Ext.setCell ?_ (by simp <;> omega) _) | (refine Ext.trans ?_ (by assumption))))⟩
set_option maxRecDepth 100000 in
set_option maxHeartbeats 1000000 in
theorem rApply4 (a b : Int × Int) (ha : RiR a) (hb : RiR b) (w : World) :
    Calls Try.prog 75 #[.string (opNm 4), rv a, rv b] w fun e w' => e = .returned (rev (applyI 4 a b)) ∧ Ext w w' := by
  have HCM := Lib.hid (fun W => rCmp_any a b ha.1 hb.1 W)
  have HRES : Hid (applyI 4 a b = (if refCmp a b ≤ 0 then a else b, 0)) := Lib.hid (by
    rw [refCmp_eq ha hb]
    have h' : doI 4 a b = minI a b := rfl
    unfold applyI
    rw [if_neg (by simp), h']
    unfold minI
    rw [if_pos rfl]
    simp only [decide_eq_true_eq])
  obtain ⟨c, hc⟩ : ∃ c, c = refCmp a b := ⟨_, rfl⟩
  rw [← hc] at HCM HRES
  obtain ⟨a1, a2⟩ := a; obtain ⟨b1, b2⟩ := b
  rw [HRES.out]
  clear hc ha hb HRES
  by_cases h : c ≤ 0
  · rw [if_pos h]
    simp only [opNm]; go_enter Try.func75, Try.ntmps75
    go_wp2_with (go_at_call 98; (with_reducible refine (HCM.out _).mono ?_); rintro e w2 ⟨rfl, hb⟩; obtain ⟨hc, hf⟩ := hb.cells; have hz := hb.size; simp at hz; have z1 : w.heap.size + 1 + 1 < w2.heap.size := (by omega); have z1a : w.heap.size < w2.heap.size := (by omega); have z1b : w.heap.size + 1 < w2.heap.size := (by omega); have z1c : w.heap.size + 1 + 1 < w2.heap.size + 1 := (by omega); have z1d : w.heap.size < w2.heap.size + 1 := (by omega); have z1e : w.heap.size + 1 < w2.heap.size + 1 := (by omega))
    exact bodyPost_ret (v := rev ((a1, a2), 0)) (by simp [results, Try.results75, go_sem, hc, z1]) rfl ⟨rfl, (by with_reducible repeat (first | exact Ext.refl _ | assumption | apply Ext.drewN | apply Ext.drew | apply Ext.alloc | (refine Ext.setCell ?_ (by simp <;> omega) _) | (refine Ext.trans ?_ (by assumption))))⟩
  · rw [if_neg h]
    simp only [opNm]; go_enter Try.func75, Try.ntmps75
    go_wp2_with (go_at_call 98; (with_reducible refine (HCM.out _).mono ?_); rintro e w2 ⟨rfl, hb⟩; obtain ⟨hc, hf⟩ := hb.cells; have hz := hb.size; simp at hz; have z1 : w.heap.size + 1 + 1 < w2.heap.size := (by omega); have z1a : w.heap.size < w2.heap.size := (by omega); have z1b : w.heap.size + 1 < w2.heap.size := (by omega); have z1c : w.heap.size + 1 + 1 < w2.heap.size + 1 := (by omega); have z1d : w.heap.size < w2.heap.size + 1 := (by omega); have z1e : w.heap.size + 1 < w2.heap.size + 1 := (by omega))
    exact bodyPost_ret (v := rev ((b1, b2), 0)) (by simp [results, Try.results75, go_sem, hc, z1]) rfl ⟨rfl, (by with_reducible repeat (first | exact Ext.refl _ | assumption | apply Ext.drewN | apply Ext.drew | apply Ext.alloc | (refine Ext.setCell ?_ (by simp <;> omega) _) | (refine Ext.trans ?_ (by assumption))))⟩
set_option maxRecDepth 100000 in
set_option maxHeartbeats 1000000 in
theorem rApply5 (a b : Int × Int) (ha : RiR a) (hb : RiR b) (w : World) :
    Calls Try.prog 75 #[.string (opNm 5), rv a, rv b] w fun e w' => e = .returned (rev (applyI 5 a b)) ∧ Ext w w' := by
  have HCM := Lib.hid (fun W => rCmp_any a b ha.1 hb.1 W)
  have HRES : Hid (applyI 5 a b = (if 0 ≤ refCmp a b then a else b, 0)) := Lib.hid (by
    rw [refCmp_eq ha hb]
    have h' : doI 5 a b = maxI a b := rfl
    unfold applyI
    rw [if_neg (by simp), h']
    unfold maxI
    rw [if_pos rfl]
    simp only [decide_eq_true_eq])
  obtain ⟨c, hc⟩ : ∃ c, c = refCmp a b := ⟨_, rfl⟩
  rw [← hc] at HCM HRES
  obtain ⟨a1, a2⟩ := a; obtain ⟨b1, b2⟩ := b
  rw [HRES.out]
  clear hc ha hb HRES
  by_cases h : 0 ≤ c
  · rw [if_pos h]
    simp only [opNm]; go_enter Try.func75, Try.ntmps75
    go_wp2_with (go_at_call 98; (with_reducible refine (HCM.out _).mono ?_); rintro e w2 ⟨rfl, hb⟩; obtain ⟨hc, hf⟩ := hb.cells; have hz := hb.size; simp at hz; have z1 : w.heap.size + 1 + 1 < w2.heap.size := (by omega); have z1a : w.heap.size < w2.heap.size := (by omega); have z1b : w.heap.size + 1 < w2.heap.size := (by omega); have z1c : w.heap.size + 1 + 1 < w2.heap.size + 1 := (by omega); have z1d : w.heap.size < w2.heap.size + 1 := (by omega); have z1e : w.heap.size + 1 < w2.heap.size + 1 := (by omega))
    exact bodyPost_ret (v := rev ((a1, a2), 0)) (by simp [results, Try.results75, go_sem, hc, z1]) rfl ⟨rfl, (by with_reducible repeat (first | exact Ext.refl _ | assumption | apply Ext.drewN | apply Ext.drew | apply Ext.alloc | (refine Ext.setCell ?_ (by simp <;> omega) _) | (refine Ext.trans ?_ (by assumption))))⟩
  · rw [if_neg h]
    simp only [opNm]; go_enter Try.func75, Try.ntmps75
    go_wp2_with (go_at_call 98; (with_reducible refine (HCM.out _).mono ?_); rintro e w2 ⟨rfl, hb⟩; obtain ⟨hc, hf⟩ := hb.cells; have hz := hb.size; simp at hz; have z1 : w.heap.size + 1 + 1 < w2.heap.size := (by omega); have z1a : w.heap.size < w2.heap.size := (by omega); have z1b : w.heap.size + 1 < w2.heap.size := (by omega); have z1c : w.heap.size + 1 + 1 < w2.heap.size + 1 := (by omega); have z1d : w.heap.size < w2.heap.size + 1 := (by omega); have z1e : w.heap.size + 1 < w2.heap.size + 1 := (by omega))
    exact bodyPost_ret (v := rev ((b1, b2), 0)) (by simp [results, Try.results75, go_sem, hc, z1]) rfl ⟨rfl, (by with_reducible repeat (first | exact Ext.refl _ | assumption | apply Ext.drewN | apply Ext.drew | apply Ext.alloc | (refine Ext.setCell ?_ (by simp <;> omega) _) | (refine Ext.trans ?_ (by assumption))))⟩
theorem rApply_any (i : Nat) (hi : i < 6) (a b : Int × Int) (ha : RiR a) (hb : RiR b) (w : World) :
    Calls Try.prog 75 #[.string (opNm i), rv a, rv b] w fun e w' => e = .returned (rev (applyI i a b)) ∧ Ext w w' := by
  match i, hi with
  | 0, _ => exact rApply0 a b ha hb w
  | 1, _ => exact rApply1 a b ha hb w
  | 2, _ => exact rApply2 a b ha hb w
  | 3, _ =>
    by_cases h0 : b.1 = 0
    · exact rApply_zero a b ha hb w h0
    · exact rApply3 a b ha hb w h0
  | 4, _ => exact rApply4 a b ha hb w
  | 5, _ => exact rApply5 a b ha hb w
end Go.Proofs.Ytgkdeknfmmgbdaa

namespace Go.Proofs.Ytgkdeknfmmgbdaa
set_option linter.unusedVariables false
set_option linter.unusedSimpArgs false
open Go.RowKit

theorem idxFrom_hit (p : Nat → Bool) (n : Nat) : ∀ f, ∀ k : Nat, idxFrom p n f = (k : Int) → p k = true
  | 0, k, h => by rw [idxFrom] at h; omega
  | f + 1, k, h => by
    rw [idxFrom] at h
    split at h
    · rename_i hp
      have : n - (f + 1) = k := by omega
      rw [← this]; exact hp
    · exact idxFrom_hit p n f k h
theorem idxFrom_miss (p : Nat → Bool) (n : Nat) : ∀ f, idxFrom p n f = -1 → ∀ k, n - f ≤ k → k < n → p k = false
  | 0, _, k, h1, h2 => by omega
  | f + 1, h, k, h1, h2 => by
    rw [idxFrom] at h
    split at h
    · omega
    · rename_i hp
      by_cases hk : k = n - (f + 1)
      · rw [hk]; simpa using hp
      · exact idxFrom_miss p n f h k (by omega) h2
theorem bytes_eq {a b : ByteArray} (h : (a.toList == b.toList) = true) : a = b := by
  have h := beq_iff_eq.1 h
  rw [ByteArray.toList_eq, ByteArray.toList_eq] at h
  cases a; cases b
  simpa using h
theorem opIx_eq {op : ByteArray} {i : Nat} (h : opIx op = (i : Int)) : op = opNm i := by
  unfold opIx idxZ at h
  exact (bytes_eq (idxFrom_hit _ 6 6 i h)).symm
theorem opIx_no {op : ByteArray} (h : opIx op = -1) (k : Nat) (hk : k < 6) : ((opNm k).toList == op.toList) = false := by
  unfold opIx idxZ at h
  exact idxFrom_miss _ 6 6 h k (by omega) hk

/-- The reference's answer to a value. -/
def rvE : Except Int (Int × Int) → (Int × Int) × Int
  | .ok x => (x, 0)
  | .error f => ((0, 0), f)

/-- The answer to a name. -/
def nmE : Option Int → (Int × Int) × Int
  | some k => ((k, 1), 0)
  | none => ((0, 0), 13)

theorem rval_num (op : ByteArray) (n : Int × Int) (nm : ByteArray) (ts : List Ex) (h : (op.toList == [110, 117, 109]) = true) (w : World) (v sl : Value) (hv : Rd All w (.mk op n nm ts) v) :
    Calls Try.prog 46 #[v, sl] w fun e w' => e = .returned (rev (n, 0)) ∧ Ext w w' := by
  unfold Rd at hv
  obtain ⟨base, cap, rfl, -, -, -⟩ := hv
  obtain ⟨n1, n2⟩ := n
  go_enter Try.func46, Try.ntmps46
  go_wp2
  exact bodyPost_ret (v := rev ((n1, n2), 0)) (by simp [results, Try.results46, go_sem]) rfl ⟨rfl, (by with_reducible repeat (first | exact Ext.refl _ | assumption | apply Ext.drewN | apply Ext.drew | apply Ext.alloc | (refine Ext.setCell ?_ (by simp <;> omega) _) | (refine Ext.trans ?_ (by assumption))))⟩

theorem look_drop {vs : Vals} {nm : ByteArray} {k : Nat} (hk : k < vs.length) (h : (vs[k].1.toList == nm.toList) = false) : look (vs.drop k) nm = look (vs.drop (k + 1)) nm := by
  rw [List.drop_eq_getElem_cons hk, look, h]; rfl
theorem look_hit {vs : Vals} {nm : ByteArray} {k : Nat} (hk : k < vs.length) (h : (vs[k].1.toList == nm.toList) = true) : look (vs.drop k) nm = some vs[k].2 := by
  rw [List.drop_eq_getElem_cons hk, look, h]; rfl

set_option maxRecDepth 100000 in
set_option maxHeartbeats 1000000 in
theorem rval_name (op : ByteArray) (n : Int × Int) (nm : ByteArray) (ts : List Ex) (h0 : (op.toList == [110, 117, 109]) = false) (h : (op.toList == [110, 97, 109, 101]) = true) (vs : Vals) (w : World) (v sl : Value) (hv : Rd All w (.mk op n nm ts) v) (hs : VRd All w vs sl) :
    Calls Try.prog 46 #[v, sl] w fun e w' => e = .returned (rev (nmE (look vs nm))) ∧ Ext w w' := by
  unfold Rd at hv
  obtain ⟨base, cap, rfl, -, -, -⟩ := hv
  obtain ⟨n1, n2⟩ := n
  obtain ⟨sb, sc, rfl, hn, -, hr⟩ := hs
  have HS : Hid (∀ w', Ext w w' → ∀ k (hk : k < vs.length), ∃ b, sb = some ⟨b, 0, none⟩ ∧ b < w'.heap.size ∧ w'.cell? ⟨b, k * 2, none⟩ = some (.string vs[k].1) ∧ w'.cell? ⟨b, k * 2 + 1, none⟩ = some (.int .i64 vs[k].2)) := Lib.hid fun w' hw k hk => by
    rcases hr with rfl | ⟨b, rfl, -, hc⟩
    · cases hk
    · have hb := World.block_lt_of_cell? w _ (hc k hk).1
      exact ⟨b, rfl, Nat.lt_of_lt_of_le hb hw.size, (hw.cells.1 _ _ hb).trans (hc k hk).1, (hw.cells.1 _ _ hb).trans (hc k hk).2⟩
  clear hr
  have hn2 : (vs.length : Int) ≤ 9223372036854775807 := by omega
  have hn0 : (0 : Int) ≤ (vs.length : Int) := by omega
  have hN : Hid ((n1, n2) = (n1, n2)) := Lib.hid rfl
  obtain ⟨W1, hW1⟩ : ∃ W1, W1 = (w.alloc (.cells #[.string op, .int .i64 n1, .int .i64 n2, .string nm, .slice base ts.length cap] 29)).alloc (.cells #[.int .i64 0, .int .i64 0] 26) := ⟨_, rfl⟩
  have hx1 : Ext w W1 := by rw [hW1]; exact Ext.alloc (Ext.alloc (Ext.refl _) _) _
  have k2 : W1.heap[w.heap.size]? = some (.cells #[.string op, .int .i64 n1, .int .i64 n2, .string nm, .slice base ts.length cap] 29) := by rw [hW1, Below.heap_alloc _ _ _ (by simp)]; exact block_new rfl
  have k3 : W1.heap[w.heap.size + 1]? = some (.cells #[.int .i64 0, .int .i64 0] 26) := by rw [hW1]; exact block_new (by simp)
  have HC : Hid (∀ W, Ext W1 W → W.cell? ⟨w.heap.size, 2 + 1, none⟩ = some (.string nm) ∧ W.cell? ⟨w.heap.size, 3, none⟩ = some (.string nm) ∧ w.heap.size < W.heap.size ∧ W.frozen? ⟨w.heap.size + 1, 0, none⟩ = false ∧ W.frozen? ⟨w.heap.size + 1, 1, none⟩ = false ∧ w.heap.size + 1 < W.heap.size ∧ W.cell? ⟨w.heap.size + 1, 0, none⟩ = some (.int .i64 0) ∧ W.cell? ⟨w.heap.size + 1, 1, none⟩ = some (.int .i64 0)) := Lib.hid fun W hW => by
    obtain ⟨c, f, l⟩ := Rg.cells_of ((hW.block _ (Rg.lt_of_heap k2)).trans k2)
    obtain ⟨c', f', l'⟩ := Rg.cells_of ((hW.block _ (Rg.lt_of_heap k3)).trans k3)
    exact ⟨c 3, c 3, l, f' 0, f' 1, l', c' 0, c' 1⟩
  clear k2 k3
  go_enter Try.func46, Try.ntmps46
  go_wp2_with (fail)
  rw [← hW1]
  clear hW1
  have HX1 := Lib.hid hx1
  clear hx1
  obtain ⟨p2, hp2⟩ : ∃ p2, p2 = w.heap.size := ⟨_, rfl⟩
  obtain ⟨p4, hp4⟩ : ∃ p4, p4 = w.heap.size + 1 := ⟨_, rfl⟩
  rw [← hp4, ← hp2] at HC ⊢
  have HP4 := Lib.hid (show w.heap.size ≤ p4 by omega)
  clear hp2 hp4
  go_loopw [6] (fun k wr => ∃ j : Nat, k = .int .i64 j ∧ j ≤ vs.length ∧ look (vs.drop j) nm = look vs nm ∧ Ext W1 wr) (fun k _ => vs.length - (intOf k).toNat)
  case atStart => exact ⟨0, rfl, Nat.zero_le _, rfl, Ext.refl _⟩
  case round =>
    obtain ⟨j, rfl, hj, hlk, hx⟩ := hrel
    have HL := Lib.hid hlk
    have HX := Lib.hid hx
    obtain ⟨c0, c1, cl, f0, f1, fl, d0, d1⟩ := HC.out wr hx
    clear hlk hx
    have kw : IntKind.i64.wrap ((j : Int) + 1) = (j : Int) + 1 := by rw [IntKind.wrap_i64]; omega
    rcases Nat.lt_or_ge j vs.length with hlt | hge
    · obtain ⟨b, rfl, hbl, hb0, hb1⟩ := HS.out wr (HX1.out.trans HX.out) j hlt
      have hlt' : (j : Int) < (vs.length : Int) := by omega
      have hj0 : (0 : Int) ≤ (j : Int) := by omega
      cases hq : (vs[j].1.toList == nm.toList)
      · have HLD := Lib.hid (look_drop hlt hq)
        generalize vs[j].1 = sj at *
        go_wp2_with (fail)
        go_region
        go_wp2
        go_roundw
        case rel =>
          have hxr := HX.out
          exact ⟨j + 1, by go_num, by omega, by rw [← HLD.out]; exact HL.out, (by with_reducible repeat (first | exact Ext.refl _ | assumption | apply Ext.drewN | apply Ext.drew | apply Ext.alloc | (refine Ext.setCell ?_ (by simp <;> omega) _) | (refine Ext.trans ?_ (by assumption))))⟩
        case measure => simp [intOf]; omega
      · have HLH := Lib.hid (look_hit hlt hq)
        have HLK : Hid (look vs nm = some vs[j].2) := Lib.hid (HL.out.symm.trans HLH.out)
        generalize vs[j].1 = sj at *
        generalize vs[j].2 = zj at *
        clear HL HLH
        go_wp2_with (fail)
        go_region
        go_wp2_with (go_at_call 29; (with_reducible refine (refOf_any _ _).mono ?_); rintro e w5 ⟨rfl, hx5⟩; clear c0 c1 cl f0 f1 fl d0 d1; obtain ⟨c0, c1, cl, f0, f1, fl, d0, d1⟩ := HC.out w5 (HX.out.trans (by with_reducible repeat (first | exact Ext.refl _ | assumption | apply Ext.drewN | apply Ext.drew | apply Ext.alloc | (refine Ext.setCell ?_ (by simp <;> omega) _) | (refine Ext.trans ?_ (by assumption))))))
        have hxx := HX1.out
        have hxy := HX.out
        have hpp := HP4.out
        exact bodyPost_ret (v := rev ((zj, 1), 0)) (by simp [results, Try.results46, go_sem, f0, f1, fl, d0, d1]) rfl ⟨by rw [HLK.out]; rfl, (by with_reducible repeat (first | exact Ext.refl _ | assumption | apply Ext.drewN | apply Ext.drew | apply Ext.alloc | (refine Ext.setCell ?_ (by simp <;> omega) _) | (refine Ext.trans ?_ (by assumption))))⟩
    · have hle : ¬ (j : Int) < (vs.length : Int) := by omega
      have HLN : Hid (look vs nm = none) := Lib.hid (by rw [← HL.out, List.drop_eq_nil_of_le (by omega)]; rfl)
      clear HL
      go_wp2
      have hxx := HX1.out
      have hxy := HX.out
      have hpp := HP4.out
      exact bodyPost_ret (v := rev ((0, 0), 13)) (by simp [results, Try.results46, go_sem, f0, f1, fl, d0, d1]) rfl ⟨by rw [HLN.out]; rfl, (by with_reducible repeat (first | exact Ext.refl _ | assumption | apply Ext.drewN | apply Ext.drew | apply Ext.alloc | (refine Ext.setCell ?_ (by simp <;> omega) _) | (refine Ext.trans ?_ (by assumption))))⟩

/-- What an operation on two answers answers. -/
def twoE (ra rb : Except Int (Int × Int)) (r : Int × Int → Int × Int → (Int × Int) × Int) : (Int × Int) × Int :=
  match ra with
  | .error f => ((0, 0), f)
  | .ok x => match rb with
    | .error f => ((0, 0), f)
    | .ok y => r x y
set_option maxRecDepth 100000 in
set_option maxHeartbeats 4000000 in
theorem rval_op (op : ByteArray) (n : Int × Int) (nm : ByteArray) (ta tb : Ex) (h0 : (op.toList == [110, 117, 109]) = false) (h : (op.toList == [110, 97, 109, 101]) = false)
    (vs : Vals) (w : World) (v sl : Value) (hv : Rd All w (.mk op n nm [ta, tb]) v) (hs : VRd All w vs sl) (ra rb : Except Int (Int × Int)) (hra0 : ∀ f, ra = .error f → f ≠ 0) (hrb0 : ∀ f, rb = .error f → f ≠ 0)
    (ia : ∀ (w : World) (v sl : Value), Rd All w ta v → VRd All w vs sl → Calls Try.prog 46 #[v, sl] w fun e w' => e = .returned (rev (rvE ra)) ∧ Ext w w')
    (ib : ∀ (w : World) (v sl : Value), Rd All w tb v → VRd All w vs sl → Calls Try.prog 46 #[v, sl] w fun e w' => e = .returned (rev (rvE rb)) ∧ Ext w w') (r : Int × Int → Int × Int → (Int × Int) × Int)
    (hap : ∀ x y, ra = .ok x → rb = .ok y → ∀ w, Calls Try.prog 75 #[.string op, rv x, rv y] w fun e w' => e = .returned (rev (r x y)) ∧ Ext w w') :
    Calls Try.prog 46 #[v, sl] w fun e w' => e = .returned (rev (twoE ra rb r)) ∧ Ext w w' := by
  unfold Rd at hv
  obtain ⟨base, cap, rfl, -, -, hr⟩ := hv
  rcases hr with hr | ⟨b, rfl, -, hl⟩
  · cases hr
  obtain ⟨c, hc, hra⟩ := hl.get 0 (by simp)
  obtain ⟨d, hd, hrb⟩ := hl.get 1 (by simp)
  obtain ⟨oa, a1, a2, na, ba, la, ca, c0, c1, c2, c3, c4, ea⟩ := hra.shape
  obtain ⟨ob, b1, b2, nb, bb, lb, cb, d0, d1, d2, d3, d4, eb⟩ := hrb.shape
  simp only [List.getElem_cons_zero, List.getElem_cons_succ] at hra hrb
  rw [ea] at hra
  rw [eb] at hrb
  have hbl : b < w.heap.size := World.block_lt_of_cell? w _ (hc 0 (by decide))
  have k0 := (hc 0 (by decide)).trans (congrArg some c0)
  have k1 := (hc 1 (by decide)).trans (congrArg some c1)
  have k2 := (hc 2 (by decide)).trans (congrArg some c2)
  have k3 := (hc 3 (by decide)).trans (congrArg some c3)
  have k4 := (hc 4 (by decide)).trans (congrArg some c4)
  have k5 := (hd 0 (by decide)).trans (congrArg some d0)
  have k6 := (hd 1 (by decide)).trans (congrArg some d1)
  have k7 := (hd 2 (by decide)).trans (congrArg some d2)
  have k8 := (hd 3 (by decide)).trans (congrArg some d3)
  have k9 := (hd 4 (by decide)).trans (congrArg some d4)
  simp only [Nat.zero_add, Nat.zero_mul, Nat.add_zero, Nat.one_mul, Nat.reduceAdd] at k0 k1 k2 k3 k4 k5 k6 k7 k8 k9
  have IA := Lib.hid (fun w' (hw : Ext w w') => ia w' _ sl (Rd.ext hw hra) (hs.ext hw))
  have IB := Lib.hid (fun w' (hw : Ext w w') => ib w' _ sl (Rd.ext hw hrb) (hs.ext hw))
  obtain ⟨n1, n2⟩ := n
  obtain ⟨W1, hW1⟩ : ∃ W1, W1 = (w.alloc (.cells #[.string op, .int .i64 n1, .int .i64 n2, .string nm, .slice (some ⟨b, 0, none⟩) 2 cap] 29)).alloc (.cells #[.int .i64 0, .int .i64 0] 26) := ⟨_, rfl⟩
  have hx1 : Ext w W1 := by rw [hW1]; exact Ext.alloc (Ext.alloc (Ext.refl _) _) _
  have j2 : W1.heap[w.heap.size]? = some (.cells #[.string op, .int .i64 n1, .int .i64 n2, .string nm, .slice (some ⟨b, 0, none⟩) 2 cap] 29) := by rw [hW1, Below.heap_alloc _ _ _ (by simp)]; exact block_new rfl
  have j3 : W1.heap[w.heap.size + 1]? = some (.cells #[.int .i64 0, .int .i64 0] 26) := by rw [hW1]; exact block_new (by simp)
  have HC : Hid (∀ W, Ext W1 W → (W.cell? ⟨w.heap.size, 0, none⟩ = some (.string op) ∧ W.cell? ⟨w.heap.size, 4, none⟩ = some (.slice (some ⟨b, 0, none⟩) 2 cap) ∧ w.heap.size < W.heap.size) ∧ (W.frozen? ⟨w.heap.size + 1, 0, none⟩ = false ∧ W.frozen? ⟨w.heap.size + 1, 1, none⟩ = false ∧ w.heap.size + 1 < W.heap.size ∧ W.cell? ⟨w.heap.size + 1, 0, none⟩ = some (.int .i64 0) ∧ W.cell? ⟨w.heap.size + 1, 1, none⟩ = some (.int .i64 0))) := Lib.hid fun W hW => by
    obtain ⟨c, f, l⟩ := Rg.cells_of ((hW.block _ (Rg.lt_of_heap j2)).trans j2)
    obtain ⟨c', f', l'⟩ := Rg.cells_of ((hW.block _ (Rg.lt_of_heap j3)).trans j3)
    exact ⟨⟨c 0, c 4, l⟩, f' 0, f' 1, l', c' 0, c' 1⟩
  have HD : Hid (∀ W, Ext W1 W → b < W.heap.size ∧ (W.cell? ⟨b, 0, none⟩ = some (.string oa) ∧ W.cell? ⟨b, 1, none⟩ = some (.int .i64 a1) ∧ W.cell? ⟨b, 2, none⟩ = some (.int .i64 a2) ∧ W.cell? ⟨b, 3, none⟩ = some (.string na) ∧ W.cell? ⟨b, 4, none⟩ = some (.slice ba la ca)) ∧ (W.cell? ⟨b, 5, none⟩ = some (.string ob) ∧ W.cell? ⟨b, 6, none⟩ = some (.int .i64 b1) ∧ W.cell? ⟨b, 7, none⟩ = some (.int .i64 b2) ∧ W.cell? ⟨b, 8, none⟩ = some (.string nb) ∧ W.cell? ⟨b, 9, none⟩ = some (.slice bb lb cb))) := Lib.hid fun W hW => by
    have hw := (hx1.trans hW).cells.1
    exact ⟨Nat.lt_of_lt_of_le hbl (hx1.trans hW).size, ⟨(hw _ _ hbl).trans k0, (hw _ _ hbl).trans k1, (hw _ _ hbl).trans k2, (hw _ _ hbl).trans k3, (hw _ _ hbl).trans k4⟩, (hw _ _ hbl).trans k5, (hw _ _ hbl).trans k6, (hw _ _ hbl).trans k7, (hw _ _ hbl).trans k8, (hw _ _ hbl).trans k9⟩
  have HX1 := Lib.hid hx1
  clear hc hd c0 c1 c2 c3 c4 d0 d1 d2 d3 d4 ea eb hra hrb hl ia ib hs j2 j3 hx1 k0 k1 k2 k3 k4 k5 k6 k7 k8 k9 hbl
  go_enter Try.func46, Try.ntmps46
  go_upto_region 1 with (fail)
  rw [← hW1]
  clear hW1
  obtain ⟨p2, hp2⟩ : ∃ p2, p2 = w.heap.size := ⟨_, rfl⟩
  obtain ⟨p4, hp4⟩ : ∃ p4, p4 = w.heap.size + 1 := ⟨_, rfl⟩
  rw [← hp4, ← hp2] at HC ⊢
  have HP4 := Lib.hid (show w.heap.size ≤ p4 by omega)
  clear hp2 hp4
  obtain ⟨⟨c0, c4, cl⟩, -⟩ := HC.out W1 (Ext.refl _)
  obtain ⟨bl, ⟨k0, k1, k2, k3, k4⟩, -⟩ := HD.out W1 (Ext.refl _)
  cases ra with
  | error f =>
    have hf : (f != 0) = true := by rw [bne_iff_ne]; exact hra0 f rfl
    clear hra0 hrb0 hap
    simp only [rvE] at IA
    have HTE : Hid (twoE (.error f) rb r = ((0, 0), f)) := Lib.hid rfl
    go_wp2_with (go_at_call 46; (with_reducible refine (IA.out _ HX1.out).mono ?_); rintro e w2 ⟨rfl, hx2⟩; clear c0 c4 cl bl k0 k1 k2 k3 k4; obtain ⟨⟨c0, c4, cl⟩, f0, f1, fl, d0, d1⟩ := HC.out w2 hx2)
    have hxx := HX1.out
    have hpp := HP4.out
    exact bodyPost_ret (v := rev ((0, 0), f)) (by simp [results, Try.results46, go_sem, f0, f1, fl, d0, d1]) rfl ⟨by rw [HTE.out], (by with_reducible repeat (first | exact Ext.refl _ | assumption | apply Ext.drewN | apply Ext.drew | apply Ext.alloc | (refine Ext.setCell ?_ (by simp <;> omega) _) | (refine Ext.trans ?_ (by assumption))))⟩
  | ok x =>
    obtain ⟨x1, x2⟩ := x
    clear hra0
    simp only [rvE] at IA
    go_upto_region 11 with (go_at_call 46; (with_reducible refine (IA.out _ HX1.out).mono ?_); rintro e w2 ⟨rfl, hx2⟩)
    have HX2 := Lib.hid (Ext.alloc hx2 (.cells #[.int .i64 x1, .int .i64 x2] 26))
    have h7 := block_new (w := w2) (o := .cells #[.int .i64 x1, .int .i64 x2] 26) rfl
    generalize (w2.alloc (.cells #[.int .i64 x1, .int .i64 x2] 26)) = W2 at *
    generalize w2.heap.size = p7 at *
    have H7 : Hid (∀ W, Ext W2 W → W.cell? ⟨p7, 0, none⟩ = some (.int .i64 x1) ∧ W.cell? ⟨p7, 1, none⟩ = some (.int .i64 x2) ∧ p7 < W.heap.size) := Lib.hid fun W hW => by
      obtain ⟨c, f, l⟩ := Rg.cells_of ((hW.block _ (Rg.lt_of_heap h7)).trans h7)
      exact ⟨c 0, c 1, l⟩
    clear hx2 h7 c0 c4 cl bl k0 k1 k2 k3 k4 IA
    obtain ⟨⟨c0, c4, cl⟩, -⟩ := HC.out W2 HX2.out
    obtain ⟨bl, -, ⟨k0, k1, k2, k3, k4⟩⟩ := HD.out W2 HX2.out
    cases rb with
    | error f =>
      have hf : (f != 0) = true := by rw [bne_iff_ne]; exact hrb0 f rfl
      clear hrb0 hap
      simp only [rvE] at IB
      have HTE : Hid (twoE (.ok (x1, x2)) (.error f) r = ((0, 0), f)) := Lib.hid rfl
      go_wp2_with (go_at_call 46; (with_reducible refine (IB.out _ (HX1.out.trans HX2.out)).mono ?_); rintro e w3 ⟨rfl, hx3⟩; clear c0 c4 cl bl k0 k1 k2 k3 k4; obtain ⟨⟨c0, c4, cl⟩, f0, f1, fl, d0, d1⟩ := HC.out w3 (HX2.out.trans hx3))
      have hxx := HX1.out
      have hxy := HX2.out
      have hpp := HP4.out
      exact bodyPost_ret (v := rev ((0, 0), f)) (by simp [results, Try.results46, go_sem, f0, f1, fl, d0, d1]) rfl ⟨by rw [HTE.out], (by with_reducible repeat (first | exact Ext.refl _ | assumption | apply Ext.drewN | apply Ext.drew | apply Ext.alloc | (refine Ext.setCell ?_ (by simp <;> omega) _) | (refine Ext.trans ?_ (by assumption))))⟩
    | ok y =>
      obtain ⟨y1, y2⟩ := y
      clear hrb0
      simp only [rvE] at IB
      have HAP := Lib.hid (hap (x1, x2) (y1, y2) rfl rfl)
      clear hap
      obtain ⟨⟨⟨r1, r2⟩, rf⟩, hr⟩ : ∃ z, z = r (x1, x2) (y1, y2) := ⟨_, rfl⟩
      rw [← hr] at HAP
      have HTE : Hid (twoE (.ok (x1, x2)) (.ok (y1, y2)) r = ((r1, r2), rf)) := Lib.hid hr.symm
      clear hr
      go_upto_region 14 with (go_at_call 46; (with_reducible refine (IB.out _ (HX1.out.trans HX2.out)).mono ?_); rintro e w3 ⟨rfl, hx3⟩)
      have HX3 := Lib.hid (Ext.alloc hx3 (.cells #[.int .i64 y1, .int .i64 y2] 26))
      have h9 := block_new (w := w3) (o := .cells #[.int .i64 y1, .int .i64 y2] 26) rfl
      generalize (w3.alloc (.cells #[.int .i64 y1, .int .i64 y2] 26)) = W3 at *
      generalize w3.heap.size = p9 at *
      obtain ⟨g0, -, gl⟩ := Rg.cells_of h9
      have y0 : W3.cell? ⟨p9, 0, none⟩ = some (.int .i64 y1) := g0 0
      have y1' : W3.cell? ⟨p9, 1, none⟩ = some (.int .i64 y2) := g0 1
      clear hx3 h9 c0 c4 cl bl k0 k1 k2 k3 k4 IB g0
      obtain ⟨⟨c0, c4, cl⟩, -⟩ := HC.out W3 (HX2.out.trans HX3.out)
      obtain ⟨q0, q1, ql⟩ := H7.out W3 HX3.out
      go_wp2_with (go_at_call 75; (with_reducible refine (HAP.out _).mono ?_); rintro e w4 ⟨rfl, hx4⟩; clear c0 c4 cl q0 q1 ql y0 y1' gl; obtain ⟨⟨c0, c4, cl⟩, f0, f1, fl, d0, d1⟩ := HC.out w4 (HX2.out.trans (HX3.out.trans hx4)))
      have hxx := HX1.out
      have hxy := HX2.out
      have hxz := HX3.out
      have hpp := HP4.out
      exact bodyPost_ret (v := rev ((r1, r2), rf)) (by simp [results, Try.results46, go_sem, f0, f1, fl, d0, d1]) rfl ⟨by rw [HTE.out], (by with_reducible repeat (first | exact Ext.refl _ | assumption | apply Ext.drewN | apply Ext.drew | apply Ext.alloc | (refine Ext.setCell ?_ (by simp <;> omega) _) | (refine Ext.trans ?_ (by assumption))))⟩

theorem valE_RiR {vs : Vals} (hvs : VR vs) {t : Ex} {w : World} {v : Value} (hv : Rd All w t v) (hf : formedB t = true) {x : Int × Int} (hx : valueE vs t = .ok x) : RiR x := by
  have h := valueE_I2 hvs t.depth t (Nat.le_refl _) hv hx
  exact ⟨⟨h.n1, h.n2, h.d1, h.d2⟩, valueE_right vs t x hf hx⟩

theorem rvalue_any (vs : Vals) : ∀ (d : Nat) (t : Ex) (_ : t.depth ≤ d) (_ : formedB t = true) (w : World) (v sl : Value) (_ : Rd All w t v) (_ : VRd All w vs sl),
    Calls Try.prog 46 #[v, sl] w fun e w' => e = .returned (rev (rvE (valueE vs t))) ∧ Ext w w'
  | 0, .mk op n nm ts, hd, _, _, _, _, _, _ => by rw [Ex.depth] at hd; omega
  | d + 1, .mk op n nm ts, hd, hf, w, v, sl, hv, hs => by
    have hf0 := hf
    rw [formedB] at hf
    rw [valueE]
    cases h0 : (op.toList == [110, 117, 109])
    · rw [h0] at hf
      cases h : (op.toList == [110, 97, 109, 101])
      · rw [h] at hf
        simp only [Bool.false_eq_true, if_false] at hf ⊢
        simp only [Bool.and_eq_true, Bool.not_eq_true', beq_eq_false_iff_ne, ne_eq, beq_iff_eq] at hf
        obtain ⟨hi, h2, -, -, hl⟩ := hf
        match ts, h2, hl, hd, hv with
        | [ta, tb], _, hl, hd, hv =>
          rw [Ex.depth, Ex.depthL, Ex.depthL, Ex.depthL] at hd
          simp only [formedL, Bool.and_eq_true, Bool.and_true] at hl
          have ia := fun w v sl hv hs => rvalue_any vs d ta (by omega) hl.1 w v sl hv hs
          have ib := fun w v sl hv hs => rvalue_any vs d tb (by omega) hl.2 w v sl hv hs
          have hvs : VR vs := by obtain ⟨_, _, _, _, h, _⟩ := hs; exact h
          obtain ⟨i, hi6, hop⟩ : ∃ i : Nat, i < 6 ∧ opIx op = (i : Int) := ⟨(opIx op).toNat, by have := opIx_bd op; omega, by have := opIx_bd op; omega⟩
          have hab : ∃ va vb, Rd All w ta va ∧ Rd All w tb vb := by
            unfold Rd at hv
            obtain ⟨_, _, -, -, -, hr⟩ := hv
            rcases hr with hr | ⟨b, -, -, hl⟩
            · cases hr
            · obtain ⟨c, -, hra⟩ := hl.get 0 (by simp)
              obtain ⟨e, -, hrb⟩ := hl.get 1 (by simp)
              exact ⟨_, _, hra, hrb⟩
          obtain ⟨va, vb, hva, hvb⟩ := hab
          refine (rval_op op n nm ta tb h0 h vs w v sl hv hs _ _ (fun f e => value_err vs ta f hl.1 e) (fun f e => value_err vs tb f hl.2 e) ia ib (fun x y => applyI i x y) (fun x y hx hy W => ?_)).mono ?_
          · rw [opIx_eq hop]
            exact rApply_any i hi6 x y (valE_RiR hvs hva hl.1 hx) (valE_RiR hvs hvb hl.2 hy) W
          · rintro e w' ⟨rfl, hx⟩
            refine ⟨?_, hx⟩
            simp only [valueL, hop, Int.toNat_natCast]
            clear ia ib
            unfold twoE
            cases valueE vs ta with
            | error f => rfl
            | ok x =>
              cases valueE vs tb with
              | error f => rfl
              | ok y =>
                simp only [appE]
                split
                · rename_i h2
                  rw [show applyI i x y = ((applyI i x y).1, 0) from Prod.ext rfl h2]; rfl
                · rename_i h2
                  have : (applyI i x y).1 = (0, 0) := by
                    unfold applyI at h2 ⊢
                    split
                    · rfl
                    · rename_i h3
                      rw [if_neg h3] at h2
                      split
                      · rename_i h4; rw [if_pos h4] at h2; exact absurd rfl h2
                      · rfl
                  rw [show applyI i x y = ((0, 0), (applyI i x y).2) from Prod.ext this rfl]; rfl
      · simp only [if_true, Bool.false_eq_true, if_false]
        refine (rval_name op n nm ts h0 h vs w v sl hv hs).mono ?_
        rintro e w' ⟨rfl, hx⟩
        refine ⟨?_, hx⟩
        cases look vs nm <;> rfl
    · simp only [if_true]
      exact rval_num op n nm ts h0 w v sl hv
end Go.Proofs.Ytgkdeknfmmgbdaa

namespace Go.Proofs.Ytgkdeknfmmgbdaa
set_option linter.unusedVariables false
set_option linter.unusedSimpArgs false
open Go.RowKit

theorem op_not_eq {s : ByteArray} (h : opIx s = -1) (k : Nat) (hk : k < 6) : (s.toList == (opNm k).toList) = false := by
  have := opIx_no h k hk
  rw [beq_eq_false_iff_ne] at this ⊢
  exact fun e => this e.symm
theorem opNm_ix (k : Nat) (hk : k < 6) : (opIx (opNm k) == -1) = false := by
  rw [opIx_at k hk, beq_eq_false_iff_ne]; omega

set_option maxRecDepth 100000 in
set_option maxHeartbeats 1000000 in
theorem roper_any (s : ByteArray) (w : World) : Calls Try.prog 85 #[.string s] w fun e w' => e = .returned (.bool (!(opIx s == -1))) ∧ Ext w w' := by
  by_cases hi : opIx s = -1
  · have h0 : (s.toList == [43]) = false := by have h := op_not_eq hi 0 (by decide); rw [show (opNm 0).toList = [43] by rw [ByteArray.toList_eq]; rfl] at h; exact h
    have h1 : (s.toList == [45]) = false := by have h := op_not_eq hi 1 (by decide); rw [show (opNm 1).toList = [45] by rw [ByteArray.toList_eq]; rfl] at h; exact h
    have h2 : (s.toList == [42]) = false := by have h := op_not_eq hi 2 (by decide); rw [show (opNm 2).toList = [42] by rw [ByteArray.toList_eq]; rfl] at h; exact h
    have h3 : (s.toList == [47]) = false := by have h := op_not_eq hi 3 (by decide); rw [show (opNm 3).toList = [47] by rw [ByteArray.toList_eq]; rfl] at h; exact h
    have h4 : (s.toList == [109, 105, 110]) = false := by have h := op_not_eq hi 4 (by decide); rw [show (opNm 4).toList = [109, 105, 110] by rw [ByteArray.toList_eq]; rfl] at h; exact h
    have h5 : (s.toList == [109, 97, 120]) = false := by have h := op_not_eq hi 5 (by decide); rw [show (opNm 5).toList = [109, 97, 120] by rw [ByteArray.toList_eq]; rfl] at h; exact h
    rw [hi]
    clear hi
    go_enter Try.func85, Try.ntmps85
    go_wp2
    go_ret
    exact ⟨rfl, (by with_reducible repeat (first | exact Ext.refl _ | assumption | apply Ext.drewN | apply Ext.drew | apply Ext.alloc | (refine Ext.setCell ?_ (by simp <;> omega) _) | (refine Ext.trans ?_ (by assumption))))⟩
  · obtain ⟨i, hi6, hop⟩ : ∃ i : Nat, i < 6 ∧ opIx s = (i : Int) := ⟨(opIx s).toNat, by have := opIx_bd s; omega, by have := opIx_bd s; omega⟩
    obtain rfl := opIx_eq hop
    rw [opNm_ix i hi6]
    clear hi hop
    match i, hi6 with
    | 0, _ => go_enter Try.func85, Try.ntmps85; unfold opNm; go_wp2; go_ret; exact ⟨rfl, (by with_reducible repeat (first | exact Ext.refl _ | assumption | apply Ext.drewN | apply Ext.drew | apply Ext.alloc | (refine Ext.setCell ?_ (by simp <;> omega) _) | (refine Ext.trans ?_ (by assumption))))⟩
    | 1, _ => go_enter Try.func85, Try.ntmps85; unfold opNm; go_wp2; go_ret; exact ⟨rfl, (by with_reducible repeat (first | exact Ext.refl _ | assumption | apply Ext.drewN | apply Ext.drew | apply Ext.alloc | (refine Ext.setCell ?_ (by simp <;> omega) _) | (refine Ext.trans ?_ (by assumption))))⟩
    | 2, _ => go_enter Try.func85, Try.ntmps85; unfold opNm; go_wp2; go_ret; exact ⟨rfl, (by with_reducible repeat (first | exact Ext.refl _ | assumption | apply Ext.drewN | apply Ext.drew | apply Ext.alloc | (refine Ext.setCell ?_ (by simp <;> omega) _) | (refine Ext.trans ?_ (by assumption))))⟩
    | 3, _ => go_enter Try.func85, Try.ntmps85; unfold opNm; go_wp2; go_ret; exact ⟨rfl, (by with_reducible repeat (first | exact Ext.refl _ | assumption | apply Ext.drewN | apply Ext.drew | apply Ext.alloc | (refine Ext.setCell ?_ (by simp <;> omega) _) | (refine Ext.trans ?_ (by assumption))))⟩
    | 4, _ => go_enter Try.func85, Try.ntmps85; unfold opNm; go_wp2; go_ret; exact ⟨rfl, (by with_reducible repeat (first | exact Ext.refl _ | assumption | apply Ext.drewN | apply Ext.drew | apply Ext.alloc | (refine Ext.setCell ?_ (by simp <;> omega) _) | (refine Ext.trans ?_ (by assumption))))⟩
    | 5, _ => go_enter Try.func85, Try.ntmps85; unfold opNm; go_wp2; go_ret; exact ⟨rfl, (by with_reducible repeat (first | exact Ext.refl _ | assumption | apply Ext.drewN | apply Ext.drew | apply Ext.alloc | (refine Ext.setCell ?_ (by simp <;> omega) _) | (refine Ext.trans ?_ (by assumption))))⟩

set_option maxRecDepth 100000 in
set_option maxHeartbeats 2000000 in
theorem rformed_num (op : ByteArray) (n : Int × Int) (nm : ByteArray) (ts : List Ex) (h : (op.toList == [110, 117, 109]) = true) (w : World) (v : Value) (hv : Rd All w (.mk op n nm ts) v) :
    Calls Try.prog 58 #[v] w fun e w' => e = .returned (.bool (ts.length == 0 && (nm.toList == [] && rightB n.1 n.2))) ∧ Ext w w' := by
  unfold Rd at hv
  obtain ⟨base, cap, rfl, hn, -, -⟩ := hv
  obtain ⟨n1, n2⟩ := n
  have HR := Lib.hid (fun W => rRight_any n1 n2 hn.n1 hn.n2 hn.d1 hn.d2 W)
  clear hn
  simp only
  generalize rightB n1 n2 = r at *
  cases r
  · go_enter Try.func58, Try.ntmps58
    go_wp2_with (go_at_call 76; (with_reducible refine (HR.out _).mono ?_); rintro e w1 ⟨rfl, hb⟩; obtain ⟨hc, hf⟩ := hb.cells; have hz := hb.size; simp at hz)
    go_ret
    exact ⟨by simp, (by with_reducible repeat (first | exact Ext.refl _ | assumption | apply Ext.drewN | apply Ext.drew | apply Ext.alloc | (refine Ext.setCell ?_ (by simp <;> omega) _) | (refine Ext.trans ?_ (by assumption))))⟩
  · by_cases g1 : ts.length = 0
    · rw [g1]
      cases h2 : (nm.toList == [])
      · go_enter Try.func58, Try.ntmps58
        go_wp2_with (go_at_call 76; (with_reducible refine (HR.out _).mono ?_); rintro e w1 ⟨rfl, hb⟩; obtain ⟨hc, hf⟩ := hb.cells; have hz := hb.size; simp at hz)
        go_ret
        exact ⟨by simp, (by with_reducible repeat (first | exact Ext.refl _ | assumption | apply Ext.drewN | apply Ext.drew | apply Ext.alloc | (refine Ext.setCell ?_ (by simp <;> omega) _) | (refine Ext.trans ?_ (by assumption))))⟩
      · go_enter Try.func58, Try.ntmps58
        go_wp2_with (go_at_call 76; (with_reducible refine (HR.out _).mono ?_); rintro e w1 ⟨rfl, hb⟩; obtain ⟨hc, hf⟩ := hb.cells; have hz := hb.size; simp at hz)
        go_ret
        exact ⟨by simp, (by with_reducible repeat (first | exact Ext.refl _ | assumption | apply Ext.drewN | apply Ext.drew | apply Ext.alloc | (refine Ext.setCell ?_ (by simp <;> omega) _) | (refine Ext.trans ?_ (by assumption))))⟩
    · rw [show (ts.length == 0) = false by simpa using g1]
      go_enter Try.func58, Try.ntmps58
      go_wp2_with (go_at_call 76; (with_reducible refine (HR.out _).mono ?_); rintro e w1 ⟨rfl, hb⟩; obtain ⟨hc, hf⟩ := hb.cells; have hz := hb.size; simp at hz)
      go_ret
      exact ⟨by simp, (by with_reducible repeat (first | exact Ext.refl _ | assumption | apply Ext.drewN | apply Ext.drew | apply Ext.alloc | (refine Ext.setCell ?_ (by simp <;> omega) _) | (refine Ext.trans ?_ (by assumption))))⟩

theorem neq26b (a b : Int) (h : (a == 0 && b == 0) = false) (w : World) : (binOp .neq 26 (.agg #[.int .i64 a, .int .i64 b]) (.agg #[.int .i64 0, .int .i64 0])).run Try.prog w = .ok (.bool true) w := by
  simp [go_sem]
  rintro rfl rfl
  simp at h
theorem neq26c (w : World) : (binOp .neq 26 (.agg #[.int .i64 0, .int .i64 0]) (.agg #[.int .i64 0, .int .i64 0])).run Try.prog w = .ok (.bool false) w := by
  simp [go_sem]

set_option maxRecDepth 100000 in
set_option maxHeartbeats 2000000 in
theorem rformed_full (op : ByteArray) (n : Int × Int) (nm : ByteArray) (ts : List Ex) (h : (op.toList == [110, 117, 109]) = false) (hn : (n.1 == 0 && n.2 == 0) = false) (w : World) (v : Value) (hv : Rd All w (.mk op n nm ts) v) :
    Calls Try.prog 58 #[v] w fun e w' => e = .returned (.bool false) ∧ Ext w w' := by
  unfold Rd at hv
  obtain ⟨base, cap, rfl, -, -, -⟩ := hv
  obtain ⟨n1, n2⟩ := n
  simp only at hn
  have HN := fun W => neq26b n1 n2 hn W
  clear hn
  go_enter Try.func58, Try.ntmps58
  go_wp2
  go_ret
  exact ⟨rfl, (by with_reducible repeat (first | exact Ext.refl _ | assumption | apply Ext.drewN | apply Ext.drew | apply Ext.alloc | (refine Ext.setCell ?_ (by simp <;> omega) _) | (refine Ext.trans ?_ (by assumption))))⟩

set_option maxRecDepth 100000 in
set_option maxHeartbeats 2000000 in
theorem rformed_name (op : ByteArray) (nm : ByteArray) (ts : List Ex) (h : (op.toList == [110, 117, 109]) = false) (h0 : (op.toList == [110, 97, 109, 101]) = true) (w : World) (v : Value) (hv : Rd All w (.mk op (0, 0) nm ts) v) :
    Calls Try.prog 58 #[v] w fun e w' => e = .returned (.bool (ts.length == 0 && !(nm.toList == []))) ∧ Ext w w' := by
  unfold Rd at hv
  obtain ⟨base, cap, rfl, -, -, -⟩ := hv
  by_cases g1 : ts.length = 0
  · rw [g1]
    cases h2 : (nm.toList == [])
    · go_enter Try.func58, Try.ntmps58
      go_wp2
      go_ret
      exact ⟨by simp, (by with_reducible repeat (first | exact Ext.refl _ | assumption | apply Ext.drewN | apply Ext.drew | apply Ext.alloc | (refine Ext.setCell ?_ (by simp <;> omega) _) | (refine Ext.trans ?_ (by assumption))))⟩
    · go_enter Try.func58, Try.ntmps58
      go_wp2
      go_ret
      exact ⟨by simp, (by with_reducible repeat (first | exact Ext.refl _ | assumption | apply Ext.drewN | apply Ext.drew | apply Ext.alloc | (refine Ext.setCell ?_ (by simp <;> omega) _) | (refine Ext.trans ?_ (by assumption))))⟩
  · rw [show (ts.length == 0) = false by simpa using g1]
    go_enter Try.func58, Try.ntmps58
    go_wp2
    go_ret
    exact ⟨by simp, (by with_reducible repeat (first | exact Ext.refl _ | assumption | apply Ext.drewN | apply Ext.drew | apply Ext.alloc | (refine Ext.setCell ?_ (by simp <;> omega) _) | (refine Ext.trans ?_ (by assumption))))⟩

set_option maxRecDepth 100000 in
set_option maxHeartbeats 2000000 in
theorem rformed_bad (op : ByteArray) (nm : ByteArray) (ts : List Ex) (h : (op.toList == [110, 117, 109]) = false) (h0 : (op.toList == [110, 97, 109, 101]) = false) (hb : opIx op = -1 ∨ ¬ ts.length = 2 ∨ (nm.toList == []) = false) (w : World) (v : Value) (hv : Rd All w (.mk op (0, 0) nm ts) v) :
    Calls Try.prog 58 #[v] w fun e w' => e = .returned (.bool false) ∧ Ext w w' := by
  unfold Rd at hv
  obtain ⟨base, cap, rfl, -, -, -⟩ := hv
  have HO := Lib.hid (fun W => roper_any op W)
  by_cases hi : opIx op = -1
  · rw [hi] at HO
    clear hb hi
    go_enter Try.func58, Try.ntmps58
    go_wp2_with (go_at_call 85; (with_reducible refine (HO.out _).mono ?_); rintro e w1 ⟨rfl, hb⟩; obtain ⟨hc, hf⟩ := hb.cells; have hz := hb.size; simp at hz)
    go_ret
    exact ⟨rfl, (by with_reducible repeat (first | exact Ext.refl _ | assumption | apply Ext.drewN | apply Ext.drew | apply Ext.alloc | (refine Ext.setCell ?_ (by simp <;> omega) _) | (refine Ext.trans ?_ (by assumption))))⟩
  · rw [show (opIx op == -1) = false by rw [beq_eq_false_iff_ne]; exact hi] at HO
    have hb := hb.resolve_left hi
    clear hi
    by_cases g1 : ts.length = 2
    · have hb := hb.resolve_left (fun e => e g1)
      rw [g1]
      go_enter Try.func58, Try.ntmps58
      go_wp2_with (go_at_call 85; (with_reducible refine (HO.out _).mono ?_); rintro e w1 ⟨rfl, hb⟩; obtain ⟨hc, hf⟩ := hb.cells; have hz := hb.size; simp at hz)
      go_ret
      exact ⟨rfl, (by with_reducible repeat (first | exact Ext.refl _ | assumption | apply Ext.drewN | apply Ext.drew | apply Ext.alloc | (refine Ext.setCell ?_ (by simp <;> omega) _) | (refine Ext.trans ?_ (by assumption))))⟩
    · clear hb
      have g2 : (((ts.length : Nat) : Int) != 2) = true := by rw [bne_iff_ne]; omega
      have g3 : (((ts.length : Nat) : Int) == 2) = false := by rw [beq_eq_false_iff_ne]; omega
      go_enter Try.func58, Try.ntmps58
      go_wp2_with (go_at_call 85; (with_reducible refine (HO.out _).mono ?_); rintro e w1 ⟨rfl, hb⟩; obtain ⟨hc, hf⟩ := hb.cells; have hz := hb.size; simp at hz)
      go_ret
      exact ⟨rfl, (by with_reducible repeat (first | exact Ext.refl _ | assumption | apply Ext.drewN | apply Ext.drew | apply Ext.alloc | (refine Ext.setCell ?_ (by simp <;> omega) _) | (refine Ext.trans ?_ (by assumption))))⟩

set_option maxRecDepth 100000 in
set_option maxHeartbeats 4000000 in
theorem rformed_op (op : ByteArray) (nm : ByteArray) (ta tb : Ex) (h : (op.toList == [110, 117, 109]) = false) (h0 : (op.toList == [110, 97, 109, 101]) = false) (hi : ¬ opIx op = -1) (h2 : (nm.toList == []) = true) (w : World) (v : Value) (hv : Rd All w (.mk op (0, 0) nm [ta, tb]) v) (fa fb : Bool)
    (ia : ∀ (w : World) (v : Value), Rd All w ta v → Calls Try.prog 58 #[v] w fun e w' => e = .returned (.bool fa) ∧ Ext w w')
    (ib : ∀ (w : World) (v : Value), Rd All w tb v → Calls Try.prog 58 #[v] w fun e w' => e = .returned (.bool fb) ∧ Ext w w') :
    Calls Try.prog 58 #[v] w fun e w' => e = .returned (.bool (fa && fb)) ∧ Ext w w' := by
  unfold Rd at hv
  obtain ⟨base, cap, rfl, -, -, hr⟩ := hv
  rcases hr with hr | ⟨b, rfl, -, hl⟩
  · cases hr
  obtain ⟨c, hc, hra⟩ := hl.get 0 (by simp)
  obtain ⟨d, hd, hrb⟩ := hl.get 1 (by simp)
  obtain ⟨oa, a1, a2, na, ba, la, ca, c0, c1, c2, c3, c4, ea⟩ := hra.shape
  obtain ⟨ob, b1, b2, nb, bb, lb, cb, d0, d1, d2, d3, d4, eb⟩ := hrb.shape
  simp only [List.getElem_cons_zero, List.getElem_cons_succ] at hra hrb
  rw [ea] at hra
  rw [eb] at hrb
  have hbl : b < w.heap.size := World.block_lt_of_cell? w _ (hc 0 (by decide))
  have k0 := (hc 0 (by decide)).trans (congrArg some c0)
  have k1 := (hc 1 (by decide)).trans (congrArg some c1)
  have k2 := (hc 2 (by decide)).trans (congrArg some c2)
  have k3 := (hc 3 (by decide)).trans (congrArg some c3)
  have k4 := (hc 4 (by decide)).trans (congrArg some c4)
  have k5 := (hd 0 (by decide)).trans (congrArg some d0)
  have k6 := (hd 1 (by decide)).trans (congrArg some d1)
  have k7 := (hd 2 (by decide)).trans (congrArg some d2)
  have k8 := (hd 3 (by decide)).trans (congrArg some d3)
  have k9 := (hd 4 (by decide)).trans (congrArg some d4)
  simp only [Nat.zero_add, Nat.zero_mul, Nat.add_zero, Nat.one_mul, Nat.reduceAdd] at k0 k1 k2 k3 k4 k5 k6 k7 k8 k9
  have IA := Lib.hid (fun w' (hw : Ext w w') => ia w' _ (Rd.ext hw hra))
  have IB := Lib.hid (fun w' (hw : Ext w w') => ib w' _ (Rd.ext hw hrb))
  have HO := Lib.hid (fun W => roper_any op W)
  rw [show (opIx op == -1) = false by rw [beq_eq_false_iff_ne]; exact hi] at HO
  clear hc hd c0 c1 c2 c3 c4 d0 d1 d2 d3 d4 ea eb hra hrb hl ia ib hi
  have g1 : b < w.heap.size + 1 := by omega
  cases fa
  · go_enter Try.func58, Try.ntmps58
    go_wp2_with (first
      | (go_at_call 85; (with_reducible refine (HO.out _).mono ?_); rintro e w1 ⟨rfl, hb1⟩; obtain ⟨hc, hf⟩ := hb1.cells; have hz := hb1.size; simp at hz; have z1 : w.heap.size < w1.heap.size := (by omega); have z2 : b < w1.heap.size := (by omega))
      | (go_at_call_of 58 (Value.agg #[.string oa, .int .i64 a1, .int .i64 a2, .string na, .slice ba la ca]); (with_reducible refine (IA.out _ (by with_reducible repeat (first | exact Ext.refl _ | assumption | apply Ext.drewN | apply Ext.drew | apply Ext.alloc | (refine Ext.setCell ?_ (by simp <;> omega) _) | (refine Ext.trans ?_ (by assumption))))).mono ?_); rintro e w2 ⟨rfl, hb2⟩; obtain ⟨hc2, hf2⟩ := hb2.cells; have hz2 := hb2.size; have z3 : w.heap.size < w2.heap.size := (by omega); have z4 : b < w2.heap.size := (by omega))
      | (go_at_call_of 58 (Value.agg #[.string ob, .int .i64 b1, .int .i64 b2, .string nb, .slice bb lb cb]); (with_reducible refine (IB.out _ (by with_reducible repeat (first | exact Ext.refl _ | assumption | apply Ext.drewN | apply Ext.drew | apply Ext.alloc | (refine Ext.setCell ?_ (by simp <;> omega) _) | (refine Ext.trans ?_ (by assumption))))).mono ?_); rintro e w3 ⟨rfl, hb3⟩))
    go_ret
    exact ⟨rfl, (by with_reducible repeat (first | exact Ext.refl _ | assumption | apply Ext.drewN | apply Ext.drew | apply Ext.alloc | (refine Ext.setCell ?_ (by simp <;> omega) _) | (refine Ext.trans ?_ (by assumption))))⟩
  · go_enter Try.func58, Try.ntmps58
    go_wp2_with (first
      | (go_at_call 85; (with_reducible refine (HO.out _).mono ?_); rintro e w1 ⟨rfl, hb1⟩; obtain ⟨hc, hf⟩ := hb1.cells; have hz := hb1.size; simp at hz; have z1 : w.heap.size < w1.heap.size := (by omega); have z2 : b < w1.heap.size := (by omega))
      | (go_at_call_of 58 (Value.agg #[.string oa, .int .i64 a1, .int .i64 a2, .string na, .slice ba la ca]); (with_reducible refine (IA.out _ (by with_reducible repeat (first | exact Ext.refl _ | assumption | apply Ext.drewN | apply Ext.drew | apply Ext.alloc | (refine Ext.setCell ?_ (by simp <;> omega) _) | (refine Ext.trans ?_ (by assumption))))).mono ?_); rintro e w2 ⟨rfl, hb2⟩; obtain ⟨hc2, hf2⟩ := hb2.cells; have hz2 := hb2.size; have z3 : w.heap.size < w2.heap.size := (by omega); have z4 : b < w2.heap.size := (by omega))
      | (go_at_call_of 58 (Value.agg #[.string ob, .int .i64 b1, .int .i64 b2, .string nb, .slice bb lb cb]); (with_reducible refine (IB.out _ (by with_reducible repeat (first | exact Ext.refl _ | assumption | apply Ext.drewN | apply Ext.drew | apply Ext.alloc | (refine Ext.setCell ?_ (by simp <;> omega) _) | (refine Ext.trans ?_ (by assumption))))).mono ?_); rintro e w3 ⟨rfl, hb3⟩))
    go_ret
    exact ⟨rfl, (by with_reducible repeat (first | exact Ext.refl _ | assumption | apply Ext.drewN | apply Ext.drew | apply Ext.alloc | (refine Ext.setCell ?_ (by simp <;> omega) _) | (refine Ext.trans ?_ (by assumption))))⟩

theorem rformed_any : ∀ (d : Nat) (t : Ex) (_ : t.depth ≤ d) (w : World) (v : Value) (_ : Rd All w t v), Calls Try.prog 58 #[v] w fun e w' => e = .returned (.bool (formedB t)) ∧ Ext w w'
  | 0, .mk op n nm ts, hd, _, _, _ => by rw [Ex.depth] at hd; omega
  | d + 1, .mk op n nm ts, hd, w, v, hv => by
    rw [formedB]
    cases h0 : (op.toList == [110, 117, 109])
    · simp only [Bool.false_eq_true, if_false]
      cases hn : (n.1 == 0 && n.2 == 0)
      · refine (rformed_full op n nm ts h0 hn w v hv).mono ?_
        rintro e w' ⟨rfl, hx⟩
        exact ⟨by split <;> simp, hx⟩
      · obtain ⟨n1, n2⟩ := n
        simp only [Bool.and_eq_true, beq_iff_eq] at hn
        obtain ⟨rfl, rfl⟩ := hn
        cases h : (op.toList == [110, 97, 109, 101])
        · simp only [Bool.false_eq_true, if_false]
          by_cases hb : opIx op = -1 ∨ ¬ ts.length = 2 ∨ (nm.toList == []) = false
          · refine (rformed_bad op nm ts h0 h hb w v hv).mono ?_
            rintro e w' ⟨rfl, hx⟩
            refine ⟨?_, hx⟩
            rcases hb with hb | hb | hb
            · rw [hb]; rfl
            · rw [show (ts.length == 2) = false by simpa using hb]; simp
            · rw [hb]; simp
          · have hi : ¬ opIx op = -1 := fun e => hb (.inl e)
            have h2 : ts.length = 2 := by
              by_cases e : ts.length = 2
              · exact e
              · exact absurd (.inr (.inl e)) hb
            have h3 : (nm.toList == []) = true := by
              cases e : (nm.toList == [])
              · exact absurd (.inr (.inr e)) hb
              · rfl
            match ts, h2, hd, hv with
            | [ta, tb], _, hd, hv =>
              rw [Ex.depth, Ex.depthL, Ex.depthL, Ex.depthL] at hd
              refine (rformed_op op nm ta tb h0 h hi h3 w v hv _ _ (fun w v hv => rformed_any d ta (by omega) w v hv) (fun w v hv => rformed_any d tb (by omega) w v hv)).mono ?_
              rintro e w' ⟨rfl, hx⟩
              refine ⟨?_, hx⟩
              rw [show (opIx op == -1) = false by rw [beq_eq_false_iff_ne]; exact hi, h3]
              simp [formedL]
        · simp only [if_true]
          refine (rformed_name op nm ts h0 h w v hv).mono ?_
          rintro e w' ⟨rfl, hx⟩
          exact ⟨by simp, hx⟩
    · simp only [if_true]
      exact rformed_num op n nm ts h0 w v hv

set_option maxRecDepth 100000 in
set_option maxHeartbeats 2000000 in
theorem rwrong_any (t : Ex) (hp : t.parts ≤ 100000) (w : World) (v : Value) (hv : Rd All w t v) : Calls Try.prog 34 #[v] w fun e w' => e = .returned (.int .i64 (wrongI t)) ∧ Ext w w' := by
  have HP := Lib.hid (fun w' (hw : Ext w w') => rparts_any t.depth t (Nat.le_refl _) hp w' v (hv.ext hw))
  have HD := Lib.hid (fun w' (hw : Ext w w') => rdepth_any t.depth t (Nat.le_refl _) hp w' v (hv.ext hw))
  have HF := Lib.hid (fun w' (hw : Ext w w') => rformed_any t.depth t (Nat.le_refl _) w' v (hv.ext hw))
  have hW : Hid (wrongI t = if t.parts ≤ 60 ∧ t.depth ≤ 12 then (if formedB t = true then 0 else 1) else 2) := Lib.hid rfl
  obtain ⟨op, n1, n2, nm, base, len, cap, rfl⟩ := hv.form
  rw [hW.out]
  clear hW hv hp
  generalize t.parts = P at *
  generalize t.depth = D at *
  generalize formedB t = F at *
  by_cases g1 : P ≤ 60
  · have g1' : ¬ (60 : Int) < (P : Int) := by omega
    by_cases g2 : D ≤ 12
    · have g2' : ¬ (12 : Int) < (D : Int) := by omega
      rw [if_pos ⟨g1, g2⟩]
      cases F
      · go_enter Try.func34, Try.ntmps34
        go_wp2_with
          (first
            | (go_at_call 22; (with_reducible refine (HP.out _ (by with_reducible repeat (first | exact Ext.refl _ | assumption | apply Ext.drewN | apply Ext.drew | apply Ext.alloc | (refine Ext.setCell ?_ (by simp <;> omega) _) | (refine Ext.trans ?_ (by assumption))))).mono ?_); rintro e w1 ⟨rfl, hb1⟩; obtain ⟨hc, hf⟩ := hb1.cells; have hz := hb1.size; simp at hz; have z1 : w.heap.size < w1.heap.size := (by omega))
            | (go_at_call 57; (with_reducible refine (HD.out _ (by with_reducible repeat (first | exact Ext.refl _ | assumption | apply Ext.drewN | apply Ext.drew | apply Ext.alloc | (refine Ext.setCell ?_ (by simp <;> omega) _) | (refine Ext.trans ?_ (by assumption))))).mono ?_); rintro e w2 ⟨rfl, hb2⟩; obtain ⟨hc2, hf2⟩ := hb2.cells; have hz2 := hb2.size; have z3 : w.heap.size < w2.heap.size := (by omega))
            | (go_at_call 58; (with_reducible refine (HF.out _ (by with_reducible repeat (first | exact Ext.refl _ | assumption | apply Ext.drewN | apply Ext.drew | apply Ext.alloc | (refine Ext.setCell ?_ (by simp <;> omega) _) | (refine Ext.trans ?_ (by assumption))))).mono ?_); rintro e w3 ⟨rfl, hb3⟩))
        go_ret
        exact ⟨rfl, (by with_reducible repeat (first | exact Ext.refl _ | assumption | apply Ext.drewN | apply Ext.drew | apply Ext.alloc | (refine Ext.setCell ?_ (by simp <;> omega) _) | (refine Ext.trans ?_ (by assumption))))⟩
      · go_enter Try.func34, Try.ntmps34
        go_wp2_with
          (first
            | (go_at_call 22; (with_reducible refine (HP.out _ (by with_reducible repeat (first | exact Ext.refl _ | assumption | apply Ext.drewN | apply Ext.drew | apply Ext.alloc | (refine Ext.setCell ?_ (by simp <;> omega) _) | (refine Ext.trans ?_ (by assumption))))).mono ?_); rintro e w1 ⟨rfl, hb1⟩; obtain ⟨hc, hf⟩ := hb1.cells; have hz := hb1.size; simp at hz; have z1 : w.heap.size < w1.heap.size := (by omega))
            | (go_at_call 57; (with_reducible refine (HD.out _ (by with_reducible repeat (first | exact Ext.refl _ | assumption | apply Ext.drewN | apply Ext.drew | apply Ext.alloc | (refine Ext.setCell ?_ (by simp <;> omega) _) | (refine Ext.trans ?_ (by assumption))))).mono ?_); rintro e w2 ⟨rfl, hb2⟩; obtain ⟨hc2, hf2⟩ := hb2.cells; have hz2 := hb2.size; have z3 : w.heap.size < w2.heap.size := (by omega))
            | (go_at_call 58; (with_reducible refine (HF.out _ (by with_reducible repeat (first | exact Ext.refl _ | assumption | apply Ext.drewN | apply Ext.drew | apply Ext.alloc | (refine Ext.setCell ?_ (by simp <;> omega) _) | (refine Ext.trans ?_ (by assumption))))).mono ?_); rintro e w3 ⟨rfl, hb3⟩))
        go_ret
        exact ⟨rfl, (by with_reducible repeat (first | exact Ext.refl _ | assumption | apply Ext.drewN | apply Ext.drew | apply Ext.alloc | (refine Ext.setCell ?_ (by simp <;> omega) _) | (refine Ext.trans ?_ (by assumption))))⟩
    · have g2' : (12 : Int) < (D : Int) := by omega
      rw [if_neg (fun h => g2 h.2)]
      go_enter Try.func34, Try.ntmps34
      go_wp2_with
        (first
          | (go_at_call 22; (with_reducible refine (HP.out _ (by with_reducible repeat (first | exact Ext.refl _ | assumption | apply Ext.drewN | apply Ext.drew | apply Ext.alloc | (refine Ext.setCell ?_ (by simp <;> omega) _) | (refine Ext.trans ?_ (by assumption))))).mono ?_); rintro e w1 ⟨rfl, hb1⟩; obtain ⟨hc, hf⟩ := hb1.cells; have hz := hb1.size; simp at hz; have z1 : w.heap.size < w1.heap.size := (by omega))
          | (go_at_call 57; (with_reducible refine (HD.out _ (by with_reducible repeat (first | exact Ext.refl _ | assumption | apply Ext.drewN | apply Ext.drew | apply Ext.alloc | (refine Ext.setCell ?_ (by simp <;> omega) _) | (refine Ext.trans ?_ (by assumption))))).mono ?_); rintro e w2 ⟨rfl, hb2⟩; obtain ⟨hc2, hf2⟩ := hb2.cells; have hz2 := hb2.size; have z3 : w.heap.size < w2.heap.size := (by omega))
          | (go_at_call 58; (with_reducible refine (HF.out _ (by with_reducible repeat (first | exact Ext.refl _ | assumption | apply Ext.drewN | apply Ext.drew | apply Ext.alloc | (refine Ext.setCell ?_ (by simp <;> omega) _) | (refine Ext.trans ?_ (by assumption))))).mono ?_); rintro e w3 ⟨rfl, hb3⟩))
      go_ret
      exact ⟨rfl, (by with_reducible repeat (first | exact Ext.refl _ | assumption | apply Ext.drewN | apply Ext.drew | apply Ext.alloc | (refine Ext.setCell ?_ (by simp <;> omega) _) | (refine Ext.trans ?_ (by assumption))))⟩
  · have g1' : (60 : Int) < (P : Int) := by omega
    rw [if_neg (fun h => g1 h.1)]
    go_enter Try.func34, Try.ntmps34
    go_wp2_with
      (first
        | (go_at_call 22; (with_reducible refine (HP.out _ (by with_reducible repeat (first | exact Ext.refl _ | assumption | apply Ext.drewN | apply Ext.drew | apply Ext.alloc | (refine Ext.setCell ?_ (by simp <;> omega) _) | (refine Ext.trans ?_ (by assumption))))).mono ?_); rintro e w1 ⟨rfl, hb1⟩; obtain ⟨hc, hf⟩ := hb1.cells; have hz := hb1.size; simp at hz; have z1 : w.heap.size < w1.heap.size := (by omega))
        | (go_at_call 57; (with_reducible refine (HD.out _ (by with_reducible repeat (first | exact Ext.refl _ | assumption | apply Ext.drewN | apply Ext.drew | apply Ext.alloc | (refine Ext.setCell ?_ (by simp <;> omega) _) | (refine Ext.trans ?_ (by assumption))))).mono ?_); rintro e w2 ⟨rfl, hb2⟩; obtain ⟨hc2, hf2⟩ := hb2.cells; have hz2 := hb2.size; have z3 : w.heap.size < w2.heap.size := (by omega))
        | (go_at_call 58; (with_reducible refine (HF.out _ (by with_reducible repeat (first | exact Ext.refl _ | assumption | apply Ext.drewN | apply Ext.drew | apply Ext.alloc | (refine Ext.setCell ?_ (by simp <;> omega) _) | (refine Ext.trans ?_ (by assumption))))).mono ?_); rintro e w3 ⟨rfl, hb3⟩))
    go_ret
    exact ⟨rfl, (by with_reducible repeat (first | exact Ext.refl _ | assumption | apply Ext.drewN | apply Ext.drew | apply Ext.alloc | (refine Ext.setCell ?_ (by simp <;> omega) _) | (refine Ext.trans ?_ (by assumption))))⟩

/-- The reference's Eval answers as eval's. -/
theorem rvE_eval {vs : Vals} {t : Ex} (h : wrongI t = 0) : rvE (valueE vs t) = evalI vs t := by
  unfold evalI
  rw [if_pos h]
  cases valueE vs t <;> rfl
set_option maxRecDepth 100000 in
set_option maxHeartbeats 2000000 in
theorem reval_any (vs : Vals) (t : Ex) (hp : t.parts ≤ 100000) (w : World) (v sl : Value) (hv : Rd All w t v) (hs : VRd All w vs sl) : Calls Try.prog 18 #[v, sl] w fun e w' => e = .returned (rev (evalI vs t)) ∧ Ext w w' := by
  have HW := Lib.hid (fun w' (hw : Ext w w') => rwrong_any t hp w' v (hv.ext hw))
  by_cases h0 : wrongI t = 0
  · have HV := Lib.hid (fun w' (hw : Ext w w') => rvalue_any vs t.depth t (Nat.le_refl _) (wrong_zero h0).2.2 w' v sl (hv.ext hw) (hs.ext hw))
    rw [rvE_eval h0] at HV
    rw [h0] at HW
    generalize evalI vs t = r at *
    obtain ⟨⟨r1, r2⟩, rf⟩ := r
    obtain ⟨op, n1, n2, nm, base, len, cap, rfl⟩ := hv.form
    clear hv hs h0 hp
    go_enter Try.func18, Try.ntmps18
    go_wp2_with (first
      | (go_at_call 34; (with_reducible refine (HW.out _ (by with_reducible repeat (first | exact Ext.refl _ | assumption | apply Ext.drewN | apply Ext.drew | apply Ext.alloc | (refine Ext.setCell ?_ (by simp <;> omega) _) | (refine Ext.trans ?_ (by assumption))))).mono ?_); rintro e w1 ⟨rfl, hb1⟩; obtain ⟨hc, hf⟩ := hb1.cells; have hz := hb1.size; simp at hz; have z1 : w.heap.size < w1.heap.size := (by omega); have z2 : w.heap.size + 1 < w1.heap.size := (by omega))
      | (go_at_call 46; (with_reducible refine (HV.out _ (by with_reducible repeat (first | exact Ext.refl _ | assumption | apply Ext.drewN | apply Ext.drew | apply Ext.alloc | (refine Ext.setCell ?_ (by simp <;> omega) _) | (refine Ext.trans ?_ (by assumption))))).mono ?_); rintro e w2 ⟨rfl, hb2⟩; obtain ⟨hc2, hf2⟩ := hb2.cells; have hz2 := hb2.size; have z3 : w.heap.size < w2.heap.size := (by omega); have z4 : w.heap.size + 1 < w2.heap.size := (by omega)))
    exact bodyPost_ret (v := rev ((r1, r2), rf)) (by simp [results, Try.results18, go_sem, hc, hc2, z1, z2, z3, z4]) rfl ⟨rfl, (by with_reducible repeat (first | exact Ext.refl _ | assumption | apply Ext.drewN | apply Ext.drew | apply Ext.alloc | (refine Ext.setCell ?_ (by simp <;> omega) _) | (refine Ext.trans ?_ (by assumption))))⟩
  · have hE : evalI vs t = ((0, 0), wrongI t) := by unfold evalI; rw [if_neg h0]
    rw [hE]
    have hne : (wrongI t != 0) = true := by rw [bne_iff_ne]; exact h0
    generalize wrongI t = f at *
    obtain ⟨op, n1, n2, nm, base, len, cap, rfl⟩ := hv.form
    clear hv hs h0 hE hp
    go_enter Try.func18, Try.ntmps18
    go_wp2_with (go_at_call 34; (with_reducible refine (HW.out _ (by with_reducible repeat (first | exact Ext.refl _ | assumption | apply Ext.drewN | apply Ext.drew | apply Ext.alloc | (refine Ext.setCell ?_ (by simp <;> omega) _) | (refine Ext.trans ?_ (by assumption))))).mono ?_); rintro e w1 ⟨rfl, hb1⟩; obtain ⟨hc, hf⟩ := hb1.cells; have hz := hb1.size; simp at hz; have z1 : w.heap.size < w1.heap.size := (by omega); have z2 : w.heap.size + 1 < w1.heap.size := (by omega))
    exact bodyPost_ret (v := rev ((0, 0), f)) (by simp [results, Try.results18, go_sem, hc, z1, z2]) rfl ⟨rfl, (by with_reducible repeat (first | exact Ext.refl _ | assumption | apply Ext.drewN | apply Ext.drew | apply Ext.alloc | (refine Ext.setCell ?_ (by simp <;> omega) _) | (refine Ext.trans ?_ (by assumption))))⟩
end Go.Proofs.Ytgkdeknfmmgbdaa

namespace Go.Proofs.Ytgkdeknfmmgbdaa
set_option linter.unusedVariables false
set_option linter.unusedSimpArgs false
open Go.RowKit

def sumP (st : List Ex) : Nat := Ex.partsL st
theorem partsL_app : ∀ (a b : List Ex), Ex.partsL (a ++ b) = Ex.partsL a + Ex.partsL b
  | [], b => by rw [List.nil_append, Ex.partsL]; omega
  | t :: a, b => by rw [List.cons_append, Ex.partsL, Ex.partsL, partsL_app a b]; omega
theorem parts_leaf (op : ByteArray) (n : Int × Int) (nm : ByteArray) : (leaf op n nm).parts = 1 := by unfold leaf; rw [Ex.parts, Ex.partsL]
theorem parts_op (s : ByteArray) (a b : Ex) : (opE' s a b).parts = 1 + a.parts + b.parts := by
  unfold opE'; rw [Ex.parts, Ex.partsL, Ex.partsL, Ex.partsL]; omega
theorem madeStep_parts (st : List Ex) (z : Int) : Ex.partsL (madeStep st z) ≤ Ex.partsL st + 1 ∧ (madeStep st z).length ≤ st.length + 1 := by
  unfold madeStep
  simp only
  split
  · rw [partsL_app, Ex.partsL, Ex.partsL]; unfold numE; rw [parts_leaf]; simp
  · split
    · rw [partsL_app, Ex.partsL, Ex.partsL]; unfold nameE; rw [parts_leaf]; simp
    · split
      · rename_i b a r h
        have h2 : st = r.reverse ++ [a, b] := by have := congrArg List.reverse h; simpa using this
        rw [h2, partsL_app, partsL_app, Ex.partsL, Ex.partsL, Ex.partsL, Ex.partsL, Ex.partsL, parts_op]
        simp
        omega
      · omega
theorem madeN_parts (ls : List Int) : ∀ j, Ex.partsL ((ls.take j).foldl madeStep []) ≤ j ∧ ((ls.take j).foldl madeStep []).length ≤ j
  | 0 => by simp [Ex.partsL]
  | j + 1 => by
    have ih := madeN_parts ls j
    rcases Nat.lt_or_ge j ls.length with h | h
    · rw [List.take_succ_eq_append_getElem h, List.foldl_append]
      have := madeStep_parts ((ls.take j).foldl madeStep []) ls[j]
      simp only [List.foldl_cons, List.foldl_nil]
      omega
    · rw [List.take_of_length_le (by omega)]
      rw [List.take_of_length_le h] at ih
      omega
theorem madeJoin_parts : ∀ (ts : List Ex) (t : Ex), (madeJoin t ts).parts = t.parts + Ex.partsL ts + ts.length
  | [], t => by rw [madeJoin, Ex.partsL]; rfl
  | u :: ts, t => by rw [madeJoin, madeJoin_parts ts, parts_op, Ex.partsL, List.length_cons]; omega
theorem madeE_parts (ls : List Int) : (madeE ls).parts ≤ 160 := by
  unfold madeE
  have h := madeN_parts ls 80
  split
  · unfold nameE; rw [parts_leaf]; omega
  · rename_i t ts he
    rw [he, Ex.partsL, List.length_cons] at h
    rw [madeJoin_parts]
    omega
end Go.Proofs.Ytgkdeknfmmgbdaa

namespace Go.Proofs.Ytgkdeknfmmgbdaa
set_option linter.unusedVariables false
set_option linter.unusedSimpArgs false
open Go.RowKit Go.WideShapes Go.ChangeShapes

section
variable {H : Type} {enc : TypeId × Value → H} {P : Program}
theorem post_of_below {f : Func} {s : ChangeSpec} {apart fresh handsOn again : Bool} {W W' : World} {args : Array Value} {v : Value} {ds gs : List (DataW H)} {before pa pv : List MemPlace}
    (hW : DataW.Whole enc P f.params.toList s.vars apart W args.toList ds gs before)
    (hres : ∀ (b : Nat) (sp : Nat → Bool) (hd : Bool), DataW.TrodAll enc P W' b sp hd f.resultTypes.toList (v.resultList f.resultTypes.size) (s.fn H (ds ++ gs)).results [])
    (hargs : ∀ sp : Nat → Bool, (∀ p ∈ before, sp p.block = true) → DataW.TrodAll enc P W' 0 sp true f.params.toList args.toList (s.fn H (ds ++ gs)).args pa)
    (hvars : ∀ sp : Nat → Bool, (∀ p ∈ before, sp p.block = true) → DataW.TrodVars enc P W' sp s.vars (s.fn H (ds ++ gs)).vars pv)
    (hps : before = pa ++ pv) (hb : Below W.heap.size W W')
    (hok : ∀ (j : Nat) (t : TypeId) (r : Value), f.resultTypes[j]? = some t → (v.resultList f.resultTypes.size)[j]? = some r → Value.okWide P W' .any 0 t r) :
    s.post enc P f apart fresh handsOn again W args v W' := by
  have hlt : ∀ p ∈ before, p.block < W.heap.size := fun p hp => hW.lt p hp
  have hold : ∀ p ∈ before, (fun b => decide (b < W.heap.size)) p.block = true := fun p hp => by simpa using hlt p hp
  refine ⟨ds, gs, before, [], pa, pv, hW, hres _ _ _, hargs _ hold, hvars _ hold, World.keptBut_mono (fun p hp => ⟨hp, ?_⟩) (hb.frame (· ∈ before)), fun _ => ?_⟩
  · rw [hps, List.mem_append] at hp
    exact Or.inr hp
  · obtain ⟨_, _, _, _, _, hz, hn⟩ := hW
    refine ⟨hok, _, _, ([] ++ pa) ++ pv, ⟨[] ++ pa, pv, trodAll_append (hargs _ (fun _ _ => rfl)) (hres _ _ _), hvars _ (fun _ _ => rfl), rfl, ?_, ?_⟩, ?_⟩
    · intro b off hp
      have hin : MemPlace.cell b off ∈ before := by rw [hps]; simpa using hp
      rw [hb.frozen (hlt _ hin)]
      exact hz b off hin
    · intro ha
      have := hn ha
      rw [hps] at this
      simpa using this
    · intro p hp _
      rw [hps]
      simpa using hp
end

end Go.Proofs.Ytgkdeknfmmgbdaa

namespace Go.Proofs.Ytgkdeknfmmgbdaa
set_option linter.unusedVariables false
set_option linter.unusedSimpArgs false
open Go.RowKit Go.WideShapes Go.ChangeShapes

theorem sameAt_below {w w' : World} (hb : Below w.heap.size w w') (p : MemPlace) (hp : p.block < w.heap.size) : w.sameAt w' p := by
  cases p with
  | cell b off => exact Below.cell (p := ⟨b, off, none⟩) hb hp
  | map b => exact hb.block b hp
section
variable {H : Type} {enc : TypeId × Value → H} {P : Program} {w w' : World} {base : Nat} {sp : Nat → Bool} {held : Bool}
theorem trodAll_below (hb : Below w.heap.size w w') : ∀ {ts : List TypeId} {vs : List Value} {ds : List (DataW H)} {ps : List MemPlace}, DataW.TrodAll enc P w base sp held ts vs ds ps → DataW.TrodAll enc P w' base sp held ts vs ds ps
  | [], [], [], _, h => h
  | t :: ts, v :: vs, d :: ds, ps, h => by
    obtain ⟨p, q, ⟨fuel, hp⟩, hq, e⟩ := h
    exact ⟨p, q, ⟨fuel, DataW.trod_carry fuel t _ _ hp fun x hx => sameAt_below hb x (DataW.trod_lt fuel t _ _ hp x hx)⟩, trodAll_below hb hq, e⟩
  | [], _ :: _, _, _, h => h.elim
  | [], [], _ :: _, _, h => h.elim
  | _ :: _, [], _, _, h => h.elim
  | _ :: _, _ :: _, [], _, h => h.elim
end

theorem kids : Kids Try.prog (· < Try.prog.types.size) := kids_rows (by kernel_rfl) (by kernel_rfl)
theorem full : ∀ t e, t < Try.prog.types.size → Try.prog.underlying t = some (.slice e) → 0 < Try.prog.cellsOf e := slices_full_of Try.prog (by kernel_rfl)
theorem own : ownKnob Try.prog.godebug = none := by kernel_rfl
theorem cells3 : Try.prog.cellsOf 3 = 1 := by kernel_rfl

end Go.Proofs.Ytgkdeknfmmgbdaa

namespace Go.Proofs.Ytgkdeknfmmgbdaa
set_option linter.unusedVariables false
set_option linter.unusedSimpArgs false
open Go.RowKit Go.WideShapes Go.ChangeShapes
set_option maxRecDepth 100000

section
variable {H : Type} {enc : TypeId × Value → H} {W W' : World} {sp : Nat → Bool}
theorem trodAll_stay (hb : Below W.heap.size W W') : ∀ {ts : List TypeId} {vs : List Value} {ds : List (DataW H)} {ps : List MemPlace}, (∀ t ∈ ts, t < Try.prog.types.size) →
    DataW.TrodAll enc Try.prog W 0 (fun _ => true) true ts vs ds ps → (∀ p ∈ ps, sp p.block = true) → DataW.TrodAll enc Try.prog W' 0 sp true ts vs ds ps
  | [], [], [], _, _, h, _ => h
  | t :: ts, v :: vs, d :: ds, ps, ht, h, hs => by
    obtain ⟨p, q, ⟨fuel, hp⟩, hq, e⟩ := h
    subst e
    refine ⟨p, q, ⟨fuel, ?_⟩, trodAll_stay hb (fun t h => ht t (List.mem_cons_of_mem _ h)) hq (fun x hx => hs x (List.mem_append_right _ hx)), rfl⟩
    exact DataW.trod_stays kids (fun {t e} ht hu => full t e ht hu) (fun h => by cases h) (ht t List.mem_cons_self) hp
      (fun x hx => sameAt_below hb x (DataW.trod_lt fuel t _ _ hp x hx)) (fun x hx => hs x (List.mem_append_left _ hx))
  | [], _ :: _, _, _, _, h, _ => h.elim
  | [], [], _ :: _, _, _, h, _ => h.elim
  | _ :: _, [], _, _, _, h, _ => h.elim
  | _ :: _, _ :: _, [], _, _, h, _ => h.elim

theorem i64_of_wf {n : Int} (h : (Lit.int .i64 n).wf = true) : -9223372036854775808 ≤ n ∧ n ≤ 9223372036854775807 := by
  simpa [Lit.wf, IntKind.min, IntKind.max, IntKind.signed, IntKind.bits] using h
theorem ird_of_trod {fuel : Nat} {cs : List Value} {x : DataW H × List MemPlace} (h : DataW.trod enc Try.prog W 0 (fun _ => true) true fuel 22 cs = some x) : ∃ v ls, cs = [v] ∧ IRd W v ls := by
  rcases open_ints Try.underlying22 Try.underlying3 cells3 h with ⟨rfl, -⟩ | ⟨a, len, cap, zs, rfl, -, hl, hm, hz, -, hc, hw⟩
  · exact ⟨_, [], rfl, none, 0, rfl, by simp, by simp, .inl rfl⟩
  · have hlen : (zs.take len).length = len := by rw [List.length_take, hz]; simp; omega
    unfold maxLen at hm
    refine ⟨_, zs.take len, rfl, some a, cap, by rw [hlen], by rw [hlen]; omega, fun z hz => i64_of_wf (hw z (List.mem_of_mem_take hz)), ?_⟩
    rcases Nat.eq_zero_or_pos len with rfl | hpos
    · exact .inl rfl
    · have hzl : len ≤ zs.length := by rw [hz]; simp; omega
      obtain ⟨b, off, rfl, hcell⟩ := ints_at hc (by omega)
      refine .inr ⟨b, off, rfl, fun k hk => ?_⟩
      rw [hlen] at hk
      rw [hcell k (by omega), List.getElem_take, List.getD_eq_getElem?_getD, List.getElem?_eq_getElem (by omega)]
      rfl
/-- A slice of ints among the arguments. -/
theorem open_IRd {r : Reach} {b0 : Nat} {v : Value} {d : DataW H} {ps : List MemPlace} (hval : Value.okWide Try.prog W r b0 22 v) (hd : DataW.Trod enc Try.prog W 0 (fun _ => true) true 22 v d ps) : ∃ ls, IRd W v ls := by
  obtain ⟨fuel, hf⟩ := hd
  obtain ⟨a, l, c, rfl⟩ := okWide_slice Try.underlying22 hval
  obtain ⟨v, ls, hcs, hr⟩ := ird_of_trod hf
  simp [Value.cells] at hcs
  subst hcs
  exact ⟨ls, hr⟩
end
end Go.Proofs.Ytgkdeknfmmgbdaa

namespace Go.Proofs.Ytgkdeknfmmgbdaa
set_option linter.unusedVariables false
set_option linter.unusedSimpArgs false
open Go.RowKit Go.WideShapes Go.ChangeShapes
set_option maxRecDepth 100000

section
variable {H : Type} {enc : TypeId × Value → H} {W : World}
/-- An array's parts. -/
theorem arr_parts {t e : TypeId} {m : Nat} {fuel : Nat} {cs : List Value} {x : DataW H × List MemPlace} (ht : Try.prog.underlying t = some (.array m e)) (hct : Try.prog.cellsOf t = m * Try.prog.cellsOf e)
    (h : DataW.trod enc Try.prog W 0 (fun _ => true) true fuel t cs = some x) : ∃ n, cs.length = m * Try.prog.cellsOf e ∧ ∀ i, i < m → ∃ y, DataW.trod enc Try.prog W 0 (fun _ => true) true n e ((cs.drop (i * Try.prog.cellsOf e)).take (Try.prog.cellsOf e)) = some y := by
  cases fuel with
  | zero => simp [DataW.trod] at h
  | succ n =>
    have key : ∃ xs, cs.length = Try.prog.cellsOf t ∧ ((List.range m).mapM fun i => DataW.trod enc Try.prog W 0 (fun _ => true) true n e ((cs.drop (i * Try.prog.cellsOf e)).take (Try.prog.cellsOf e))) = some xs := by
      clear hct
      unfold DataW.trod at h
      rw [ht] at h
      have fin : ∀ (cs : List Value) (x : DataW H × List MemPlace), (if cs.length = Try.prog.cellsOf t then Option.map (fun xs => (DataW.agg (List.map (fun x => x.fst) xs), List.flatMap (fun x => x.snd) xs)) (List.mapM (fun i => DataW.trod enc Try.prog W 0 (fun _ => true) true n e (List.take (Try.prog.cellsOf e) (List.drop (i * Try.prog.cellsOf e) cs))) (List.range m)) else none) = some x →
          ∃ xs, cs.length = Try.prog.cellsOf t ∧ ((List.range m).mapM fun i => DataW.trod enc Try.prog W 0 (fun _ => true) true n e ((cs.drop (i * Try.prog.cellsOf e)).take (Try.prog.cellsOf e))) = some xs := by
        intro cs x h
        split at h
        · rename_i hl
          obtain ⟨xs, hx, -⟩ := Option.map_eq_some_iff.1 h
          exact ⟨xs, hl, hx⟩
        · cases h
      split at h <;> first | (rename_i heq; cases heq; done) | (rename_i heq; injection heq with heq; injection heq with e1 e2; subst e1 e2; exact fin _ _ h) | exact fin _ _ h | (rename_i heq; injection heq with heq; cases heq; done)
    obtain ⟨xs, hl, hp⟩ := key
    refine ⟨n, hl.trans hct, fun i hi => ?_⟩
    have hg := mapM_some_get hp i i (by simp [hi])
    have hlen := mapM_some_length hp
    exact ⟨xs[i]'(by rw [hlen]; simpa using hi), by rw [hg, List.getElem?_eq_getElem]⟩
theorem okWide_array {t e : TypeId} {m : Nat} {r : Reach} {b0 : Nat} {v : Value} (ht : Try.prog.underlying t = some (.array m e)) (h : Value.okWide Try.prog W r b0 t v) : ∃ cs, v = .agg cs ∧ cs.size = Try.prog.cellsOf t := by
  unfold Value.okWide at h
  rw [ht] at h
  obtain ⟨cs, h1, h2, -⟩ := h
  exact ⟨cs, h1, h2⟩
/-- An array of m ints. -/
theorem arr_ints {t e : TypeId} {m : Nat} {k : IntKind} {fuel : Nat} {cs : List Value} {x : DataW H × List MemPlace} (ht : Try.prog.underlying t = some (.array m e)) (he : Try.prog.underlying e = some (.int k)) (hc : Try.prog.cellsOf e = 1) (hct : Try.prog.cellsOf t = m)
    (h : DataW.trod enc Try.prog W 0 (fun _ => true) true fuel t cs = some x) : cs.length = m ∧ ∀ i, i < m → ∃ n, cs[i]? = some (.int k n) ∧ (Lit.int k n).wf = true := by
  cases fuel with
  | zero => simp [DataW.trod] at h
  | succ n =>
    have key : ∃ xs, cs.length = Try.prog.cellsOf t ∧ ((List.range m).mapM fun i => DataW.trod enc Try.prog W 0 (fun _ => true) true n e ((cs.drop (i * Try.prog.cellsOf e)).take (Try.prog.cellsOf e))) = some xs := by
      clear hc hct he
      unfold DataW.trod at h
      rw [ht] at h
      have fin : ∀ (cs : List Value) (x : DataW H × List MemPlace), (if cs.length = Try.prog.cellsOf t then Option.map (fun xs => (DataW.agg (List.map (fun x => x.fst) xs), List.flatMap (fun x => x.snd) xs)) (List.mapM (fun i => DataW.trod enc Try.prog W 0 (fun _ => true) true n e (List.take (Try.prog.cellsOf e) (List.drop (i * Try.prog.cellsOf e) cs))) (List.range m)) else none) = some x →
          ∃ xs, cs.length = Try.prog.cellsOf t ∧ ((List.range m).mapM fun i => DataW.trod enc Try.prog W 0 (fun _ => true) true n e ((cs.drop (i * Try.prog.cellsOf e)).take (Try.prog.cellsOf e))) = some xs := by
        intro cs x h
        split at h
        · rename_i hl
          obtain ⟨xs, hx, -⟩ := Option.map_eq_some_iff.1 h
          exact ⟨xs, hl, hx⟩
        · cases h
      split at h <;> first | (rename_i heq; cases heq; done) | (rename_i heq; injection heq with heq; injection heq with e1 e2; subst e1 e2; exact fin _ _ h) | exact fin _ _ h | (rename_i heq; injection heq with heq; cases heq; done)
    obtain ⟨xs, hl, hp⟩ := key
    rw [hct] at hl
    rw [hc] at hp
    simp only [Nat.mul_one] at hp
    refine ⟨hl, ?_⟩
    intro i hi
    have hg := mapM_some_get hp i i (by simp [hi])
    have hlen := mapM_some_length hp
    have hx : i < xs.length := by rw [hlen]; simpa using hi
    rw [List.getElem?_eq_getElem hx] at hg
    obtain ⟨n', h1, _, h3⟩ := DataW.trod_int he hg
    refine ⟨n', ?_, h3⟩
    have hi' : i < cs.length := by omega
    rw [List.drop_eq_getElem_cons hi', List.take_succ_cons, List.take_zero] at h1
    simp only [List.cons.injEq, and_true] at h1
    rw [List.getElem?_eq_getElem hi', h1]
/-- A slice of arrays of m ints. -/
theorem slice_rows {t e u : TypeId} {m : Nat} {k : IntKind} {fuel : Nat} {cs : List Value} {x : DataW H × List MemPlace} (ht : Try.prog.underlying t = some (.slice e)) (hte : Try.prog.underlying e = some (.array m u)) (he : Try.prog.underlying u = some (.int k)) (hc : Try.prog.cellsOf u = 1) (hct : Try.prog.cellsOf e = m) (hm : 0 < m)
    (h : DataW.trod enc Try.prog W 0 (fun _ => true) true fuel t cs = some x) :
    ∃ A len cap, cs = [.slice A len cap] ∧ len ≤ maxLen ∧ (len = 0 ∨ ∃ b off, A = some ⟨b, off, none⟩ ∧ ∀ i, i < len → ∀ j, j < m → ∃ n, W.cell? ⟨b, off + i * m + j, none⟩ = some (.int k n) ∧ (Lit.int k n).wf = true) := by
  rcases DataW.trod_slice ht h with ⟨rfl, -⟩ | ⟨a, len, cap, elems, rest, n, -, rfl, -, -, hl, hmx, hlen, hel, -, -⟩
  · exact ⟨none, 0, 0, rfl, Nat.zero_le _, .inl rfl⟩
  · refine ⟨some a, len, cap, rfl, by omega, ?_⟩
    rcases Nat.eq_zero_or_pos len with h0 | h0
    · exact .inl h0
    · have key : ∀ i, i < len → ∀ j, j < m → ∃ z, W.cell? ((a.add (i * m)).add j) = some (.int k z) ∧ (Lit.int k z).wf = true := by
        intro i hi j hj
        have h1 := hel i hi
        rw [List.getElem?_eq_getElem (by omega)] at h1
        obtain ⟨ecs, h2, h3⟩ := Option.bind_eq_some_iff.1 h1
        obtain ⟨h4, h5⟩ := arr_ints hte he hc hct h3
        obtain ⟨z, h6, h7⟩ := h5 j hj
        have := (World.cells?_some h2).2.2 j (by rw [hct]; exact hj)
        rw [hct] at this
        exact ⟨z, by rw [this, h6], h7⟩
      obtain ⟨b, off, spot⟩ := a
      obtain ⟨z0, hz0, -⟩ := key 0 h0 0 hm
      have hspot : spot = none := by simpa [Addr.add] using World.cell?_spot hz0
      subst hspot
      refine .inr ⟨b, off, rfl, fun i hi j hj => ?_⟩
      obtain ⟨z, h1, h2⟩ := key i hi j hj
      exact ⟨z, by simpa [Go.WideShapes.add_plain] using h1, h2⟩
end
end Go.Proofs.Ytgkdeknfmmgbdaa

namespace Go.Proofs.Ytgkdeknfmmgbdaa
set_option linter.unusedVariables false
set_option linter.unusedSimpArgs false
open Go.RowKit Go.WideShapes Go.ChangeShapes
set_option maxRecDepth 100000

section
variable {H : Type} {enc : TypeId × Value → H} {W : World}
theorem k41' : Try.prog.cellsOf 41 = 3 := by kernel_rfl
theorem k23' : Try.prog.cellsOf 23 = 2 := by kernel_rfl
abbrev OkI (z : Int) : Prop := -9223372036854775808 ≤ z ∧ z ≤ 9223372036854775807
theorem lst2 {α : Type} : ∀ (l : List α), l.length = 2 → ∃ x y, l = [x, y]
  | [x, y], _ => ⟨x, y, rfl⟩
theorem lst3 {α : Type} : ∀ (l : List α), l.length = 3 → ∃ x y z, l = [x, y, z]
  | [x, y, z], _ => ⟨x, y, z, rfl⟩
theorem open_arr3 {r : Reach} {b0 : Nat} {v : Value} {d : DataW H} {ps : List MemPlace} (hval : Value.okWide Try.prog W r b0 41 v) (hd : DataW.Trod enc Try.prog W 0 (fun _ => true) true 41 v d ps) :
    ∃ q0 q1 q2 : Int, v = .agg #[.int .i64 q0, .int .i64 q1, .int .i64 q2] ∧ OkI q0 ∧ OkI q1 ∧ OkI q2 := by
  obtain ⟨fuel, hf⟩ := hd
  obtain ⟨cs, rfl, hsz⟩ := okWide_array Try.underlying41 hval
  rw [k41'] at hsz
  obtain ⟨x0, x1, x2, hl⟩ := lst3 cs.toList (by simpa using hsz)
  obtain rfl : cs = #[x0, x1, x2] := by cases cs; simp_all
  obtain ⟨h1, h2⟩ := arr_ints Try.underlying41 Try.underlying3 cells3 k41' hf
  obtain ⟨q0, e0, w0⟩ := h2 0 (by decide)
  obtain ⟨q1, e1, w1⟩ := h2 1 (by decide)
  obtain ⟨q2, e2, w2⟩ := h2 2 (by decide)
  replace e0 : some x0 = some (Value.int .i64 q0) := e0
  replace e1 : some x1 = some (Value.int .i64 q1) := e1
  replace e2 : some x2 = some (Value.int .i64 q2) := e2
  injection e0 with e0
  injection e1 with e1
  injection e2 with e2
  subst e0 e1 e2
  exact ⟨q0, q1, q2, rfl, i64_of_wf w0, i64_of_wf w1, i64_of_wf w2⟩
theorem open_arr2 {r : Reach} {b0 : Nat} {v : Value} {d : DataW H} {ps : List MemPlace} (hval : Value.okWide Try.prog W r b0 23 v) (hd : DataW.Trod enc Try.prog W 0 (fun _ => true) true 23 v d ps) :
    ∃ q0 q1 : Int, v = .agg #[.int .i64 q0, .int .i64 q1] ∧ OkI q0 ∧ OkI q1 := by
  obtain ⟨fuel, hf⟩ := hd
  obtain ⟨cs, rfl, hsz⟩ := okWide_array Try.underlying23 hval
  rw [k23'] at hsz
  obtain ⟨x0, x1, hl⟩ := lst2 cs.toList (by simpa using hsz)
  obtain rfl : cs = #[x0, x1] := by cases cs; simp_all
  obtain ⟨h1, h2⟩ := arr_ints Try.underlying23 Try.underlying3 cells3 k23' hf
  obtain ⟨q0, e0, w0⟩ := h2 0 (by decide)
  obtain ⟨q1, e1, w1⟩ := h2 1 (by decide)
  replace e0 : some x0 = some (Value.int .i64 q0) := e0
  replace e1 : some x1 = some (Value.int .i64 q1) := e1
  injection e0 with e0
  injection e1 with e1
  subst e0 e1
  exact ⟨q0, q1, rfl, i64_of_wf w0, i64_of_wf w1⟩
theorem u8_wf {n : Int} (h : (Lit.int .u8 n).wf = true) : 0 ≤ n ∧ n ≤ 255 := by
  simpa [Lit.wf, IntKind.min, IntKind.max, IntKind.signed, IntKind.bits] using h
end
end Go.Proofs.Ytgkdeknfmmgbdaa
