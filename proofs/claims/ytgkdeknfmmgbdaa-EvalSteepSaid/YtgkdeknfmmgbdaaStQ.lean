/-
  EvalSteep: the plain law, second part: a formula that is scaled. Nothing is asked.
-/
import Derived.Test.YtgkdeknfmmgbdaaStP
namespace Go.Proofs.Ytgkdeknfmmgbdaa
set_option linter.unusedVariables false
set_option linter.unusedSimpArgs false
open Go.RowKit

abbrev scaledE (s c : Int) (t : Ex) : Ex := opE' addB (opE' mulB (numE (s, 1)) t) (numE (c, 1))
theorem scaled_size (s c : Int) (t : Ex) : (scaledE s c t).parts = t.parts + 4 ∧ t.depth + 2 ≤ (scaledE s c t).depth := by
  unfold scaledE opE' numE leaf
  rw [Ex.parts, Ex.partsL, Ex.partsL, Ex.partsL, Ex.parts, Ex.partsL, Ex.partsL, Ex.partsL, Ex.parts, Ex.parts, Ex.partsL, Ex.depth, Ex.depthL, Ex.depthL, Ex.depthL, Ex.depth, Ex.depthL, Ex.depthL, Ex.depthL, Ex.depth, Ex.depth, Ex.depthL]
  exact ⟨by omega, by omega⟩
theorem right_int (n : Int) : rightB n 1 = true := (rightB_iff _ _).2 ⟨by decide, by simp⟩
theorem scaled_formed (s c : Int) (t : Ex) (h : formedB t = true) : formedB (scaledE s c t) = true := by
  show formedB (opE' (opNm 0) (opE' (opNm 2) (numE (s, 1)) t) (numE (c, 1))) = true
  rw [formed_op' 0 (by decide), formed_op' 2 (by decide), formed_numE, formed_numE, right_int, right_int, h]
  rfl
theorem wrong_cases (t : Ex) (h : formedB t = true) : wrongI t = 0 ∨ wrongI t = 2 := by
  unfold wrongI
  split
  · first | exact .inl rfl | (rw [if_pos h]; exact .inl rfl)
  · exact .inr rfl
theorem wrong_scaled (s c : Int) (t : Ex) (h : wrongI t = 2) (hf : formedB t = true) : wrongI (scaledE s c t) = 2 := by
  have hs := scaled_size s c t
  unfold wrongI at h ⊢
  split at h
  · first | exact absurd h (by decide) | (rw [if_pos hf] at h; cases h)
  · rename_i hn
    rw [if_neg (by omega)]
theorem value_op (vs : Vals) (i : Nat) (h : i < 6) (a b : Ex) : valueE vs (opE' (opNm i) a b) = (match valueE vs a with | .error f => .error f | .ok x => match valueE vs b with | .error f => .error f | .ok y => appE (applyI i x y)) := by
  obtain ⟨h1, h2⟩ := op_not i h
  have hL : valueL vs [a, b] = [valueE vs a, valueE vs b] := by rw [valueL, valueL, valueL]
  unfold opE'
  rw [valueE, if_neg (by rw [h1]; decide), if_neg (by rw [h2]; decide), hL, opIx_at i h]
  rfl
theorem valE_num (vs : Vals) (n : Int × Int) : valueE vs (numE n) = .ok n := by
  unfold numE leaf
  rw [valueE, if_pos num_is]
theorem value_scaled (vs : Vals) (s c : Int) (t : Ex) : valueE vs (scaledE s c t) = (match valueE vs t with | .error f => .error f | .ok x => match appE (applyI 2 (s, 1) x) with | .error f => .error f | .ok m => appE (applyI 0 m (c, 1))) := by
  show valueE vs (opE' (opNm 0) (opE' (opNm 2) (numE (s, 1)) t) (numE (c, 1))) = _
  rw [value_op vs 0 (by decide), value_op vs 2 (by decide), valE_num, valE_num]
  cases valueE vs t with
  | error f => rfl
  | ok x => rfl
/-- Where one of both has an error. -/
theorem steep_first (vs : Vals) (s c : Int) (t : Ex) (hf : formedB t = true) : (evalI vs t).2 = 0 ∨ (evalI vs t).2 = (evalI vs (scaledE s c t)).2 ∨ (evalI vs (scaledE s c t)).2 = 2 := by
  unfold evalI
  rcases wrong_cases t hf with h | h
  · rw [if_pos h]
    cases hv : valueE vs t with
    | ok x => exact .inl rfl
    | error f =>
      rcases wrong_cases _ (scaled_formed s c t hf) with h2 | h2
      · rw [if_pos h2, value_scaled, hv]
        exact .inr (.inl rfl)
      · rw [if_neg (by rw [h2]; decide), h2]
        exact .inr (.inr rfl)
  · rw [if_neg (by rw [h]; decide), wrong_scaled s c t h hf, if_neg (by decide)]
    exact .inr (.inr rfl)
theorem eval_ok0 {vs : Vals} {t : Ex} {x : Int × Int} (h : evalI vs t = (x, 0)) (hne : ∀ f, valueE vs t = .error f → f ≠ 0) : valueE vs t = .ok x := by
  unfold evalI at h
  split at h
  · cases hv : valueE vs t with
    | ok y => rw [hv] at h; injection h with h _; rw [h]
    | error f => rw [hv] at h; injection h with _ h; exact absurd h (hne f hv)
  · rename_i hw; injection h with _ h; exact absurd h hw
theorem appE_err {p : (Int × Int) × Int} {f : Int} (h : appE p = .error f) : f ≠ 0 := by
  unfold appE at h
  split at h
  · cases h
  · injection h with h; subst h; assumption
mutual
theorem value_err (vs : Vals) : ∀ (t : Ex) (f : Int), formedB t = true → valueE vs t = .error f → f ≠ 0
  | .mk op n nm ts, f, hf, hv => by
    rw [formedB] at hf
    rw [valueE] at hv
    by_cases h1 : (op.toList == [110, 117, 109]) = true
    · rw [if_pos h1] at hv; cases hv
    · rw [if_neg h1] at hf hv
      by_cases h2 : (op.toList == [110, 97, 109, 101]) = true
      · rw [if_pos h2] at hv
        split at hv
        · cases hv
        · injection hv with hv; subst hv; decide
      · rw [if_neg h2] at hf hv
        simp only [Bool.and_eq_true, beq_iff_eq] at hf
        obtain ⟨-, hl, -, -, hl2⟩ := hf
        have hV := valueL_err vs ts hl2
        have hn : (valueL vs ts).length = 2 := by rw [← hl]; clear hV hv hl hl2; induction ts with
          | nil => rfl
          | cons t ts ih => rw [valueL, List.length_cons, ih, List.length_cons]
        generalize valueL vs ts = vl at *
        match vl, hn, hv with
        | [a, b], _, hv =>
          cases a with
          | error g => injection hv with hv; subst hv; exact hV _ List.mem_cons_self g rfl
          | ok xa =>
            cases b with
            | error g => injection hv with hv; subst hv; exact hV _ (List.mem_cons_of_mem _ List.mem_cons_self) g rfl
            | ok xb => exact appE_err hv
theorem valueL_err (vs : Vals) : ∀ (ts : List Ex), formedL ts = true → ∀ e ∈ valueL vs ts, ∀ f, e = .error f → f ≠ 0
  | [], _, e, he, _, _ => by rw [valueL] at he; cases he
  | t :: ts, hf, e, he, f, hx => by
    rw [formedL, Bool.and_eq_true] at hf
    rw [valueL] at he
    rcases List.mem_cons.1 he with rfl | he
    · exact value_err vs t f hf.1 hx
    · exact valueL_err vs ts hf.2 e he f hx
end
/-- The scaled value. -/
theorem steep_val {vs : Vals} {s c : Int} {t : Ex} (hf : formedB t = true) {a b : Int × Int} (ha : evalI vs t = (a, 0)) (hb : evalI vs (scaledE s c t) = (b, 0)) :
    rightB a.1 a.2 = true ∧ rightB b.1 b.2 = true ∧ b.1 * a.2 = (s * a.1 + c * a.2) * b.2 := by
  have va := eval_ok0 ha (fun f h => value_err vs t f hf h)
  have vb := eval_ok0 hb (fun f h => value_err vs _ f (scaled_formed s c t hf) h)
  have ra := valueE_right vs t a hf va
  rw [value_scaled, va] at vb
  simp only at vb
  split at vb
  · cases vb
  · rename_i m hm
    obtain ⟨rm, dm⟩ := applyI_right 2 (right_int s) ra hm
    obtain ⟨rb, db⟩ := applyI_right 0 rm (right_int c) vb
    obtain ⟨a0, -⟩ := (rightB_iff _ _).1 ra
    obtain ⟨m0, -⟩ := (rightB_iff _ _).1 rm
    have e1 := (normS_right (Int.mul_pos (show (0 : Int) < 1 by decide) a0) ((mulI_norm (right_int s) ra).symm.trans dm)).2
    have e2 := (normS_right (Int.mul_pos m0 (show (0 : Int) < 1 by decide)) ((addI_norm rm (right_int c)).symm.trans db)).2
    simp only [Int.one_mul, Int.mul_one] at e1 e2
    refine ⟨ra, rb, ?_⟩
    have h : m.2 * (b.1 * a.2) = m.2 * ((s * a.1 + c * a.2) * b.2) := by
      have h1 : b.1 * m.2 * a.2 = (m.1 * a.2 + c * m.2 * a.2) * b.2 := by rw [e2, Int.add_mul, Int.add_mul, Int.add_mul]; simp only [Int.mul_assoc, Int.mul_left_comm, Int.mul_comm]
      rw [e1] at h1
      have h2 : m.2 * (b.1 * a.2) = b.1 * m.2 * a.2 := by simp only [Int.mul_assoc, Int.mul_left_comm, Int.mul_comm]
      rw [h2, h1, Int.add_mul, Int.add_mul, Int.mul_add]
      simp only [Int.mul_assoc, Int.mul_left_comm, Int.mul_comm]
    exact Int.eq_of_mul_eq_mul_left (by omega) h
theorem sub_val {x0 x1 p : Int × Int} (r0 : rightB x0.1 x0.2 = true) (r1 : rightB x1.1 x1.2 = true) (h : evalI [] (opE' subB (numE x0) (numE x1)) = (p, 0)) :
    rightB p.1 p.2 = true ∧ p.1 * (x0.2 * x1.2) = (x0.1 * x1.2 - x1.1 * x0.2) * p.2 := by
  have hf : formedB (opE' subB (numE x0) (numE x1)) = true := by
    rw [show subB = opNm 1 from rfl, formed_op' 1 (by decide), formed_numE, formed_numE, r0, r1]; rfl
  have hv := eval_ok0 h (fun f h => value_err [] _ f hf h)
  rw [show subB = opNm 1 from rfl, value_op [] 1 (by decide), valE_num, valE_num] at hv
  obtain ⟨rp, dp⟩ := applyI_right 1 r0 r1 hv
  obtain ⟨a0, -⟩ := (rightB_iff _ _).1 r0
  obtain ⟨b0, -⟩ := (rightB_iff _ _).1 r1
  exact ⟨rp, (normS_right (Int.mul_pos a0 b0) ((subI_norm r0 r1).symm.trans dp)).2⟩
theorem sign_of {p D N q : Int} (hD : 0 < D) (hq : 0 < q) (h : p * D = N * q) : (0 < p ↔ 0 < N) ∧ (p = 0 ↔ N = 0) := by
  rcases Int.lt_trichotomy N 0 with hn | hn | hn
  · have h1 := Int.mul_neg_of_neg_of_pos hn hq
    have : p < 0 := by
      rcases Int.lt_trichotomy p 0 with h2 | h2 | h2
      · exact h2
      · subst h2; simp at h; omega
      · have := Int.mul_pos h2 hD; omega
    exact ⟨by omega, by omega⟩
  · subst hn
    have : p = 0 := by
      rcases Int.lt_trichotomy p 0 with h2 | h2 | h2
      · have := Int.mul_neg_of_neg_of_pos h2 hD; simp at h; omega
      · exact h2
      · have := Int.mul_pos h2 hD; simp at h; omega
    exact ⟨by omega, by omega⟩
  · have h1 := Int.mul_pos hn hq
    have : 0 < p := by
      rcases Int.lt_trichotomy p 0 with h2 | h2 | h2
      · have := Int.mul_neg_of_neg_of_pos h2 hD; omega
      · subst h2; simp at h; omega
      · exact h2
    exact ⟨by omega, by omega⟩
theorem ring_key (s c a0 b0 a1 b1 d0 d1 : Int) : (s * a0 + c * b0) * d0 * (d1 * b1) - (s * a1 + c * b1) * d1 * (d0 * b0) = (a0 * b1 - a1 * b0) * (s * (d0 * d1)) := by
  have h1 : s * a0 * d0 * (d1 * b1) = a0 * b1 * (s * (d0 * d1)) := by ac_rfl
  have h2 : s * a1 * d1 * (d0 * b0) = a1 * b0 * (s * (d0 * d1)) := by ac_rfl
  have h3 : c * b0 * d0 * (d1 * b1) = c * b1 * d1 * (d0 * b0) := by ac_rfl
  rw [Int.add_mul, Int.add_mul, Int.add_mul, Int.add_mul, Int.sub_mul, h1, h2, h3]
  omega
/-- A part that is scaled keeps the order. -/
theorem steep_sign {s c : Int} (hs : 0 < s) {x0 x1 y0 y1 p q : Int × Int} (rx0 : rightB x0.1 x0.2 = true) (rx1 : rightB x1.1 x1.2 = true) (ry0 : rightB y0.1 y0.2 = true) (ry1 : rightB y1.1 y1.2 = true)
    (e0 : y0.1 * x0.2 = (s * x0.1 + c * x0.2) * y0.2) (e1 : y1.1 * x1.2 = (s * x1.1 + c * x1.2) * y1.2)
    (hp : evalI [] (opE' subB (numE x0) (numE x1)) = (p, 0)) (hq : evalI [] (opE' subB (numE y0) (numE y1)) = (q, 0)) : (0 < p.1 ↔ 0 < q.1) ∧ (p.1 = 0 ↔ q.1 = 0) := by
  obtain ⟨rp, ep⟩ := sub_val rx0 rx1 hp
  obtain ⟨rq, eq⟩ := sub_val ry0 ry1 hq
  obtain ⟨x00, -⟩ := (rightB_iff _ _).1 rx0
  obtain ⟨x10, -⟩ := (rightB_iff _ _).1 rx1
  obtain ⟨y00, -⟩ := (rightB_iff _ _).1 ry0
  obtain ⟨y10, -⟩ := (rightB_iff _ _).1 ry1
  obtain ⟨p0, -⟩ := (rightB_iff _ _).1 rp
  obtain ⟨q0, -⟩ := (rightB_iff _ _).1 rq
  have sp := sign_of (Int.mul_pos x00 x10) p0 ep
  have sq := sign_of (Int.mul_pos y00 y10) q0 eq
  have key : (y0.1 * y1.2 - y1.1 * y0.2) * (x0.2 * x1.2) = (x0.1 * x1.2 - x1.1 * x0.2) * (s * (y0.2 * y1.2)) := by
    have k1 : y0.1 * y1.2 * (x0.2 * x1.2) = (s * x0.1 + c * x0.2) * y0.2 * (y1.2 * x1.2) := by rw [← e0]; simp only [Int.mul_assoc, Int.mul_left_comm, Int.mul_comm]
    have k2 : y1.1 * y0.2 * (x0.2 * x1.2) = (s * x1.1 + c * x1.2) * y1.2 * (y0.2 * x0.2) := by rw [← e1]; simp only [Int.mul_assoc, Int.mul_left_comm, Int.mul_comm]
    rw [Int.sub_mul, k1, k2]
    exact ring_key s c x0.1 x0.2 x1.1 x1.2 y0.2 y1.2
  have sk := sign_of (Int.mul_pos x00 x10) (Int.mul_pos hs (Int.mul_pos y00 y10)) key
  exact ⟨sp.1.trans (sk.1.symm.trans sq.1.symm), sp.2.trans (sk.2.symm.trans sq.2.symm)⟩
mutual
theorem value_I2 {S : Nat → Prop} {w : World} {vs : Vals} (hr : VR vs) : ∀ (t : Ex) (v : Value) (x : Int × Int), Rd S w t v → valueE vs t = .ok x → I2 x
  | .mk op n nm ts, v, x, h, hv => by
    unfold Rd at h
    obtain ⟨base, cap, -, hn, -, hts⟩ := h
    rw [valueE] at hv
    by_cases h1 : (op.toList == [110, 117, 109]) = true
    · rw [if_pos h1] at hv
      injection hv with hv
      subst hv
      exact hn
    · rw [if_neg h1] at hv
      by_cases h2 : (op.toList == [110, 97, 109, 101]) = true
      · rw [if_pos h2] at hv
        split at hv
        · rename_i k hk
          injection hv with hv
          subst hv
          have := look_range hr hk
          exact I2.int this.1 this.2
        · cases hv
      · rw [if_neg h2] at hv
        have hV : ∀ e ∈ valueL vs ts, ∀ x, e = .ok x → I2 x := by
          rcases hts with rfl | ⟨b, -, -, hl⟩
          · intro e he; rw [valueL] at he; cases he
          · exact valueL_I2 hr ts b 0 hl
        generalize valueL vs ts = vl at *
        match vl, hv with
        | [a, b], hv =>
          cases a with
          | error f => cases hv
          | ok xa =>
            cases b with
            | error f => cases hv
            | ok xb =>
              have h3 := applyI_I2 (opIx op).toNat xa xb (hV _ List.mem_cons_self xa rfl) (hV _ (List.mem_cons_of_mem _ List.mem_cons_self) xb rfl)
              simp only at hv
              unfold appE at hv
              split at hv
              · injection hv with hv; rw [← hv]; exact h3
              · cases hv
        | [], hv => cases hv
        | [_], hv => cases hv
        | _ :: _ :: _ :: _, hv => cases hv
theorem valueL_I2 {S : Nat → Prop} {w : World} {vs : Vals} (hr : VR vs) : ∀ (ts : List Ex) (b k : Nat), RdL S w b k ts → ∀ e ∈ valueL vs ts, ∀ x, e = .ok x → I2 x
  | [], _, _, _, e, he, _, _ => by rw [valueL] at he; cases he
  | t :: ts, b, k, h, e, he, x, hx => by
    unfold RdL at h
    obtain ⟨⟨c, -, hc⟩, hl⟩ := h
    rw [valueL] at he
    rcases List.mem_cons.1 he with rfl | he
    · exact value_I2 hr t _ x hc hx
    · exact valueL_I2 hr ts b (k + 1) hl e he x hx
end
theorem evalI_I2 {S : Nat → Prop} {w : World} {vs : Vals} {t : Ex} {v : Value} {x : Int × Int} (hr : VR vs) (h : Rd S w t v) (hf : formedB t = true) (he : evalI vs t = (x, 0)) : I2 x :=
  value_I2 hr t v x h (eval_ok0 he (fun f h => value_err vs t f hf h))
end Go.Proofs.Ytgkdeknfmmgbdaa
