/-
  The arithmetic of a division of a pair of words by a word, one digit of 32 bits after the other. Nothing is asked.
-/
import Derived.Test.YtgkdeknfmmgbdaaBase
namespace Go.Proofs.Ytgkdeknfmmgbdaa
set_option linter.unusedVariables false
set_option linter.unusedSimpArgs false
namespace Dv

/-- The quotient's digit. -/
def Q (a b u l : Int) : Int := (u * 4294967296 + l) / (a * 4294967296 + b)

structure Hyp (a b u l : Int) : Prop where
  a1 : 2147483648 ≤ a
  a2 : a < 4294967296
  b1 : 0 ≤ b
  b2 : b < 4294967296
  u1 : 0 ≤ u
  u2 : u < a * 4294967296 + b
  l1 : 0 ≤ l
  l2 : l < 4294967296

structure Inv (a b u l q r : Int) : Prop where
  eq : q * a + r = u
  r0 : 0 ≤ r
  ge : Q a b u l ≤ q
  le : q ≤ 4294967297

section
variable {a b u l q r : Int}
theorem Hyp.pos (h : Hyp a b u l) : 0 < a * 4294967296 + b := by have := h.a1; have := h.b1; omega
theorem Hyp.nn (h : Hyp a b u l) : 0 ≤ Q a b u l := Int.ediv_nonneg (by have := h.u1; have := h.l1; omega) (by have := h.pos; omega)
theorem Hyp.mul_le (h : Hyp a b u l) : Q a b u l * (a * 4294967296 + b) ≤ u * 4294967296 + l := Int.ediv_mul_le _ (by have := h.pos; omega)
theorem Hyp.lt (h : Hyp a b u l) : Q a b u l < 4294967296 := by
  refine (Int.ediv_lt_iff_lt_mul h.pos).2 ?_
  have := h.u2; have := h.l2
  omega
theorem dist (q a b : Int) : q * (a * 4294967296 + b) = q * a * 4294967296 + q * b := by
  rw [Int.mul_add, Int.mul_assoc]
theorem Inv.start (h : Hyp a b u l) : Inv a b u l (u / a) (u - u / a * a) := by
  have ha : 0 < a := by have := h.a1; omega
  refine ⟨by omega, ?_, ?_, ?_⟩
  · have := Int.ediv_mul_le u (b := a) (by omega)
    omega
  · refine (Int.le_ediv_iff_mul_le ha).2 ?_
    have h1 := h.mul_le
    have h2 := Int.mul_nonneg h.nn h.b1
    have h3 := h.l2
    rw [dist] at h1
    generalize Q a b u l * a = P at *
    generalize Q a b u l * b = M at *
    omega
  · have h1 : u / a < 4294967298 := by
      refine (Int.ediv_lt_iff_lt_mul ha).2 ?_
      have := h.u2; have := h.b2; have := h.a1
      omega
    omega
theorem start_lt (h : Hyp a b u l) : u - u / a * a < 4294967296 := by
  have ha : 0 < a := by have := h.a1; omega
  have := Int.lt_ediv_add_one_mul_self u ha
  rw [Int.add_mul] at this
  have := h.a2
  omega
theorem Inv.down (h : Hyp a b u l) (i : Inv a b u l q r) (hc : 4294967296 ≤ q ∨ 4294967296 * r + l < q * b) : Inv a b u l (q - 1) (r + a) := by
  have e : (q - 1) * a = q * a - a := by rw [Int.sub_mul, Int.one_mul]
  have i1 := i.eq
  refine ⟨by rw [e]; omega, by have := i.r0; have := h.a1; omega, ?_, by have := i.le; omega⟩
  have : Q a b u l < q := by
    rcases hc with hc | hc
    · have := h.lt
      omega
    · refine (Int.ediv_lt_iff_lt_mul h.pos).2 ?_
      rw [dist]
      generalize q * a = P at *
      generalize q * b = M at *
      omega
  omega
theorem Inv.stop (h : Hyp a b u l) (i : Inv a b u l q r) (hc : q * b ≤ 4294967296 * r + l) : q = Q a b u l := by
  have i1 := i.eq
  have i2 := i.ge
  have : q ≤ Q a b u l := by
    refine (Int.le_ediv_iff_mul_le h.pos).2 ?_
    rw [dist]
    generalize q * a = P at *
    generalize q * b = M at *
    omega
  omega
theorem mul_bd (h : Hyp a b u l) (h0 : 0 ≤ q) (hq : q ≤ 4294967296) : 0 ≤ q * b ∧ q * b ≤ 18446744069414584320 := by
  refine ⟨Int.mul_nonneg h0 h.b1, ?_⟩
  have h1 := Int.mul_le_mul_of_nonneg_right hq h.b1
  have := h.b2
  omega
theorem Inv.leave (h : Hyp a b u l) (i : Inv a b u l q r) (hq : q ≤ 4294967296) (hr : 4294967296 ≤ r) : q = Q a b u l := by
  have h0 : 0 ≤ q := by have := i.ge; have := h.nn; omega
  have := mul_bd h h0 hq
  have := h.l1
  exact i.stop h (by omega)
theorem rest (h : Hyp a b u l) : u * 4294967296 + l - Q a b u l * (a * 4294967296 + b) = (u * 4294967296 + l) % (a * 4294967296 + b) := by
  have := Int.emod_add_mul_ediv (u * 4294967296 + l) (a * 4294967296 + b)
  rw [Int.mul_comm (a * 4294967296 + b)] at this
  show _ - (u * 4294967296 + l) / (a * 4294967296 + b) * (a * 4294967296 + b) = _
  omega
theorem rest_bd (h : Hyp a b u l) : 0 ≤ u * 4294967296 + l - Q a b u l * (a * 4294967296 + b) ∧ u * 4294967296 + l - Q a b u l * (a * 4294967296 + b) < a * 4294967296 + b := by
  rw [rest h]
  exact ⟨Int.emod_nonneg _ (by have := h.pos; omega), Int.emod_lt_of_pos _ h.pos⟩
end

/-- Two digits. -/
theorem two {a b u l1 l0 : Int} (h : Hyp a b u l1) (k : Hyp a b (u * 4294967296 + l1 - Q a b u l1 * (a * 4294967296 + b)) l0) :
    Q a b u l1 * 4294967296 + Q a b (u * 4294967296 + l1 - Q a b u l1 * (a * 4294967296 + b)) l0 = (u * 18446744073709551616 + (l1 * 4294967296 + l0)) / (a * 4294967296 + b) ∧
    (u * 4294967296 + l1 - Q a b u l1 * (a * 4294967296 + b)) * 4294967296 + l0 - Q a b (u * 4294967296 + l1 - Q a b u l1 * (a * 4294967296 + b)) l0 * (a * 4294967296 + b) = (u * 18446744073709551616 + (l1 * 4294967296 + l0)) % (a * 4294967296 + b) := by
  have hp := h.pos
  have kb := rest_bd k
  generalize hR : u * 4294967296 + l1 - Q a b u l1 * (a * 4294967296 + b) = R at *
  generalize hq1 : Q a b u l1 = q1 at *
  generalize hq0 : Q a b R l0 = q0 at *
  generalize a * 4294967296 + b = y at *
  have e1 : (q1 * 4294967296 + q0) * y = q1 * y * 4294967296 + q0 * y := by
    rw [Int.add_mul, Int.mul_right_comm]
  have e2 : u * 18446744073709551616 + (l1 * 4294967296 + l0) = (R * 4294967296 + l0 - q0 * y) + y * (q1 * 4294967296 + q0) := by
    rw [Int.mul_comm y, e1]
    generalize q1 * y = A at *
    generalize q0 * y = B at *
    omega
  rw [e2]
  exact ⟨by rw [Int.add_mul_ediv_left _ _ (by omega), Int.ediv_eq_zero_of_lt kb.1 kb.2]; omega, by rw [Int.add_mul_emod_self_left, Int.emod_eq_of_lt kb.1 kb.2]⟩

/-- The whole: numbers shifted so that the divisor's first bit is set. -/
theorem whole {hi lo y c d : Int} (hc : 0 < c) (hd : c * d = 18446744073709551616) (hd0 : 0 < d) (h0 : 0 < y) :
    ((hi * c + lo / d) * 18446744073709551616 + lo * c % 18446744073709551616) / (y * c) = (hi * 18446744073709551616 + lo) / y ∧
    ((hi * c + lo / d) * 18446744073709551616 + lo * c % 18446744073709551616) % (y * c) / c = (hi * 18446744073709551616 + lo) % y := by
  have e1 : lo * c / 18446744073709551616 = lo / d := by
    rw [← hd, Int.mul_comm lo c]
    exact Int.mul_ediv_mul_of_pos _ _ hc
  have e2 : (hi * c + lo / d) * 18446744073709551616 + lo * c % 18446744073709551616 = c * (hi * 18446744073709551616 + lo) := by
    rw [← e1, Int.mul_add, Int.add_mul]
    have := Int.emod_add_mul_ediv (lo * c) 18446744073709551616
    rw [Int.mul_comm c lo, ← Int.mul_assoc, Int.mul_comm c hi]
    omega
  rw [e2, Int.mul_comm y c]
  exact ⟨Int.mul_ediv_mul_of_pos _ _ hc, by rw [Int.mul_emod_mul_of_pos _ _ hc, Int.mul_ediv_cancel_left _ (by omega)]⟩
end Dv
end Go.Proofs.Ytgkdeknfmmgbdaa
