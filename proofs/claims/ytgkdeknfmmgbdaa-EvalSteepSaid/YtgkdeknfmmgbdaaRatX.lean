/-
  What the operations of package ratio give, in lowest terms: the plain law of numbers. Nothing is asked.
-/
import Derived.Test.YtgkdeknfmmgbdaaEvE
namespace Go.Proofs.Ytgkdeknfmmgbdaa
set_option linter.unusedVariables false
set_option linter.unusedSimpArgs false

theorem gcd_mul_one {a b c : Int} (h1 : Int.gcd a c = 1) (h2 : Int.gcd b c = 1) : Int.gcd (a * b) c = 1 := by
  rw [Int.gcd_eq_natAbs_gcd_natAbs, Int.natAbs_mul] at *
  exact Nat.Coprime.mul_left h1 h2
theorem gcd_dvd_one {a b c : Int} (hd : a ∣ b) (h : Int.gcd b c = 1) : Int.gcd a c = 1 := by
  rw [Int.gcd_eq_natAbs_gcd_natAbs] at *
  exact Nat.Coprime.coprime_dvd_left (Int.natAbs_dvd_natAbs.2 hd) h
theorem gcd_comm1 {a b : Int} (h : Int.gcd a b = 1) : Int.gcd b a = 1 := (Int.gcd_comm b a).trans h
theorem gcd_dvd_one' {a b c : Int} (hd : a ∣ b) (h : Int.gcd c b = 1) : Int.gcd c a = 1 := gcd_comm1 (gcd_dvd_one hd (gcd_comm1 h))
theorem dvd_of_cop {a b c : Int} (h : a ∣ b * c) (hc : Int.gcd a b = 1) : a ∣ c := by
  rw [← Int.natAbs_dvd_natAbs, Int.natAbs_mul] at h
  rw [← Int.natAbs_dvd_natAbs]
  rw [Int.gcd_eq_natAbs_gcd_natAbs] at hc
  exact Nat.Coprime.dvd_of_dvd_mul_left hc h
theorem gcd_emod' (a b : Int) : Int.gcd a (b % a) = Int.gcd a b := by
  have : b % a = b + (-(b / a)) * a := by have := Int.emod_add_mul_ediv b a; rw [Int.neg_mul, Int.mul_comm (b / a) a]; omega
  rw [this, Int.gcd_add_mul_right_right]

/-- Lowest terms are found by cross multiplication. -/
theorem norm_unique {p q N D : Int} (hq : 0 < q) (hD : 0 < D) (hc : Int.gcd p q = 1) (h : p * D = N * q) : N / (Int.gcd N D : Int) = p ∧ D / (Int.gcd N D : Int) = q := by
  have hd : q ∣ p * D := ⟨N, by rw [h, Int.mul_comm]⟩
  obtain ⟨k, rfl⟩ := dvd_of_cop hd (gcd_comm1 hc)
  have hk : 0 < k := by
    rcases Int.lt_trichotomy k 0 with h1 | h1 | h1
    · have := Int.mul_neg_of_pos_of_neg hq h1; omega
    · subst h1; simp at hD
    · exact h1
  have hN : N = p * k := by
    have : q * (p * k) = q * N := by rw [← Int.mul_assoc, Int.mul_comm q p, Int.mul_assoc, h, Int.mul_comm]
    exact (Int.eq_of_mul_eq_mul_left (by omega) this).symm
  subst hN
  have hg : (Int.gcd (p * k) (q * k) : Int) = k := by
    rw [Int.gcd_mul_right, hc, Nat.one_mul]
    omega
  rw [hg]
  exact ⟨Int.mul_ediv_cancel _ (by omega), Int.mul_ediv_cancel _ (by omega)⟩

/-- A quotient in lowest terms, if its terms fit. -/
def normS (N D : Int) : (Int × Int) × Bool :=
  let g : Int := Int.gcd N D
  if N / g < -9223372036854775808 ∨ 9223372036854775807 < N / g ∨ 9223372036854775807 < D / g then ((0, 1), false) else ((N / g, D / g), true)
theorem normS_of {p q N D : Int} (hq : 0 < q) (hD : 0 < D) (hc : Int.gcd p q = 1) (h : p * D = N * q) : normS N D = if p < -9223372036854775808 ∨ 9223372036854775807 < p ∨ 9223372036854775807 < q then ((0, 1), false) else ((p, q), true) := by
  obtain ⟨h1, h2⟩ := norm_unique hq hD hc h
  unfold normS
  simp only [h1, h2]
def sgn (neg : Bool) (n : Int) : Int := if neg then -n else n
theorem ratS_eq {neg : Bool} {n q : Int} (hn : 0 ≤ n) (hz : neg = true → 0 < n) : ratS neg n q = if sgn neg n < -9223372036854775808 ∨ 9223372036854775807 < sgn neg n ∨ 9223372036854775807 < q then ((0, 1), false) else ((sgn neg n, q), true) := by
  unfold ratS sgn
  cases neg
  · simp only [Bool.false_eq_true, if_false, and_true]
    by_cases h : 9223372036854775808 < n ∨ n = 9223372036854775808 ∨ 9223372036854775807 < q
    · rw [if_pos h, if_pos (by omega)]
    · rw [if_neg h, if_neg (by omega)]
  · simp only [if_true, Bool.true_eq_false, and_false, false_or]
    by_cases h : 9223372036854775808 < n ∨ 9223372036854775807 < q
    · rw [if_pos h, if_pos (by omega)]
    · rw [if_neg h, if_neg (by omega)]

theorem sgn_gcd (neg : Bool) (n d : Int) : Int.gcd (sgn neg n) d = Int.gcd n d := by unfold sgn; cases neg <;> simp
theorem sgn_abs (neg : Bool) (n : Int) : (sgn neg n).natAbs = n.natAbs := by unfold sgn; cases neg <;> simp

theorem sumTop_sgn (xn : Bool) (n1 d1 : Int) (yn : Bool) (n2 d2 : Int) :
    sgn (sumTop xn n1 d1 yn n2 d2).1 (sumTop xn n1 d1 yn n2 d2).2 = sgn xn n1 * (d2 / (Int.gcd d1 d2 : Int)) + sgn yn n2 * (d1 / (Int.gcd d1 d2 : Int)) := by
  unfold sumTop sgn
  simp only
  generalize d2 / (Int.gcd d1 d2 : Int) = e2
  generalize d1 / (Int.gcd d1 d2 : Int) = e1
  cases xn <;> cases yn <;> simp only [Bool.false_eq_true, if_false, if_true, Bool.true_eq_false, Int.neg_mul]
  · split <;> simp only [Bool.false_eq_true, if_false, if_true] <;> omega
  · split <;> simp only [Bool.false_eq_true, if_false, if_true] <;> omega
  · omega
theorem sumTop_nn (xn : Bool) (n1 d1 : Int) (yn : Bool) (n2 d2 : Int) (h1 : 0 ≤ n1) (h2 : 0 ≤ n2) (h3 : 0 < d1) (h4 : 0 < d2) : 0 ≤ (sumTop xn n1 d1 yn n2 d2).2 := by
  have ha : 0 ≤ n1 * (d2 / (Int.gcd d1 d2 : Int)) := Int.mul_nonneg h1 (div_nn (by omega) (gcd_nn _ _))
  have hb : 0 ≤ n2 * (d1 / (Int.gcd d1 d2 : Int)) := Int.mul_nonneg h2 (div_nn (by omega) (gcd_nn _ _))
  unfold sumTop
  simp only
  split
  · show (0 : Int) ≤ _ + _; omega
  · split
    · show (0 : Int) ≤ _ - _; omega
    · show (0 : Int) ≤ _ - _; omega

/-- A sum of two numbers in lowest terms. -/
theorem sumS_norm (xn : Bool) (n1 d1 : Int) (yn : Bool) (n2 d2 : Int) (h1 : 0 ≤ n1) (h2 : 0 ≤ n2) (h3 : 0 < d1) (h4 : 0 < d2) (c1 : Int.gcd n1 d1 = 1) (c2 : Int.gcd n2 d2 = 1) :
    sumS xn n1 d1 yn n2 d2 = normS (sgn xn n1 * d2 + sgn yn n2 * d1) (d1 * d2) := by
  have hT := sumTop_sgn xn n1 d1 yn n2 d2
  have hn := sumTop_nn xn n1 d1 yn n2 d2 h1 h2 h3 h4
  unfold sumS
  simp only
  generalize sumTop xn n1 d1 yn n2 d2 = t at *
  obtain ⟨sg, T⟩ := t
  simp only at hT hn ⊢
  have hg0 : (Int.gcd d1 d2 : Int) ≠ 0 := by
    intro h
    have := Int.gcd_dvd_left d1 d2
    rw [h] at this
    have := Int.zero_dvd.1 this
    omega
  have hgn := gcd_nn d1 d2
  obtain ⟨e1, he1⟩ := Int.gcd_dvd_left d1 d2
  obtain ⟨e2, he2⟩ := Int.gcd_dvd_right d1 d2
  have hce : Int.gcd e1 e2 = 1 := by
    have h := Int.gcd_mul_left (Int.gcd d1 d2 : Int) e1 e2
    rw [← he1, ← he2, Int.natAbs_natCast] at h
    have h0 : 0 < Int.gcd d1 d2 := by omega
    exact (Nat.eq_of_mul_eq_mul_left h0 (by rw [Nat.mul_one]; exact h.symm))
  generalize hg : (Int.gcd d1 d2 : Int) = g at *
  have hgp : 0 < g := by omega
  have q1 : d1 / g = e1 := by rw [he1, Int.mul_ediv_cancel_left _ hg0]
  have q2 : d2 / g = e2 := by rw [he2, Int.mul_ediv_cancel_left _ hg0]
  rw [q1, q2] at hT
  rw [q1]
  have e1p : 0 < e1 := by
    rcases Int.lt_trichotomy e1 0 with h | h | h
    · have := Int.mul_neg_of_pos_of_neg hgp h; omega
    · rw [h] at he1; omega
    · exact h
  have e2p : 0 < e2 := by
    rcases Int.lt_trichotomy e2 0 with h | h | h
    · have := Int.mul_neg_of_pos_of_neg hgp h; omega
    · rw [h] at he2; omega
    · exact h
  have hN : sgn xn n1 * d2 + sgn yn n2 * d1 = g * (sgn sg T) := by
    rw [hT, Int.mul_add]
    conv => lhs; rw [he1, he2]
    rw [Int.mul_left_comm, Int.mul_left_comm (sgn yn n2)]
  have hDp : 0 < d1 * d2 := Int.mul_pos h3 h4
  by_cases hT0 : T = 0
  · rw [if_pos hT0]
    have : sgn sg T = 0 := by unfold sgn; rw [hT0]; cases sg <;> rfl
    rw [hN, this, Int.mul_zero, normS_of (p := 0) (q := 1) (by decide) hDp (by decide) (by simp)]
    rfl
  · rw [if_neg hT0]
    have hTp : 0 < T := by omega
    have hh : (Int.gcd g (T % g) : Int) = (Int.gcd g T : Int) := by rw [gcd_emod']
    rw [hh]
    have hhd1 := Int.gcd_dvd_left g T
    have hhd2 := Int.gcd_dvd_right g T
    have hh0 : (Int.gcd g T : Int) ≠ 0 := by
      intro h
      rw [h] at hhd1
      have := Int.zero_dvd.1 hhd1
      omega
    have hcT : Int.gcd (T / (Int.gcd g T : Int)) (g / (Int.gcd g T : Int)) = 1 := by
      rw [Int.gcd_comm, Int.gcd_ediv hhd1 hhd2, Int.natAbs_natCast]
      exact Nat.div_self (by omega)
    have hhn := gcd_nn g T
    generalize (Int.gcd g T : Int) = h at *
    have hhp : 0 < h := by omega
    obtain ⟨T', rfl⟩ := hhd2
    obtain ⟨g', rfl⟩ := hhd1
    rw [Int.mul_ediv_cancel_left _ hh0] at *
    rw [Int.mul_ediv_cancel_left _ hh0] at hcT
    have hT'p : 0 < T' := by
      rcases Int.lt_trichotomy T' 0 with h' | h' | h'
      · have := Int.mul_neg_of_pos_of_neg hhp h'; omega
      · rw [h'] at hTp; omega
      · exact h'
    have hg'p : 0 < g' := by
      rcases Int.lt_trichotomy g' 0 with h' | h' | h'
      · have := Int.mul_neg_of_pos_of_neg hhp h'; omega
      · rw [h'] at hgp; omega
      · exact h'
    have q3 : d2 / h = g' * e2 := by rw [he2, Int.mul_assoc, Int.mul_ediv_cancel_left _ hh0]
    rw [q3]
    have c1' : Int.gcd (sgn xn n1) e1 = 1 := by rw [sgn_gcd]; exact gcd_dvd_one' ⟨h * g', by rw [he1, Int.mul_comm]⟩ c1
    have c2' : Int.gcd (sgn yn n2) e2 = 1 := by rw [sgn_gcd]; exact gcd_dvd_one' ⟨h * g', by rw [he2, Int.mul_comm]⟩ c2
    have cT1 : Int.gcd (h * T') e1 = 1 := by
      rw [← sgn_gcd sg, hT, Int.gcd_add_mul_right_left]
      exact gcd_mul_one c1' (gcd_comm1 hce)
    have cT2 : Int.gcd (h * T') e2 = 1 := by
      rw [← sgn_gcd sg, hT, Int.add_comm, Int.gcd_add_mul_right_left]
      exact gcd_mul_one c2' hce
    have k1 : Int.gcd T' e1 = 1 := gcd_dvd_one ⟨h, Int.mul_comm _ _⟩ cT1
    have k2 : Int.gcd T' e2 = 1 := gcd_dvd_one ⟨h, Int.mul_comm _ _⟩ cT2
    have k3 : Int.gcd T' (e1 * (g' * e2)) = 1 := gcd_comm1 (gcd_mul_one (gcd_comm1 k1) (gcd_mul_one (gcd_comm1 hcT) (gcd_comm1 k2)))
    have hqp : 0 < e1 * (g' * e2) := Int.mul_pos e1p (Int.mul_pos hg'p e2p)
    have hcross : sgn sg T' * (d1 * d2) = (h * g' * sgn sg (h * T')) * (e1 * (g' * e2)) := by
      have hs : sgn sg (h * T') = h * sgn sg T' := by unfold sgn; cases sg <;> simp [Int.mul_neg]
      rw [hs, he1, he2]
      generalize sgn sg T' = U
      simp only [Int.mul_assoc, Int.mul_left_comm, Int.mul_comm]
    rw [ratS_eq (Int.le_of_lt hT'p) (fun _ => hT'p), hN]
    exact (normS_of hqp hDp (by rw [sgn_gcd]; exact k3) hcross).symm
theorem pos_of_mul {g e : Int} (hg : 0 < g) (h : 0 < g * e) : 0 < e := by
  rcases Int.lt_trichotomy e 0 with h' | h' | h'
  · have := Int.mul_neg_of_pos_of_neg hg h'; omega
  · rw [h'] at h; simp at h
  · exact h'
/-- Two numbers by their greatest common divisor. -/
theorem gcd_split (a b : Int) (hb : 0 < b) : ∃ g x y, (Int.gcd a b : Int) = g ∧ 0 < g ∧ a = g * x ∧ b = g * y ∧ Int.gcd x y = 1 ∧ a / g = x ∧ b / g = y := by
  obtain ⟨x, hx⟩ := Int.gcd_dvd_left a b
  obtain ⟨y, hy⟩ := Int.gcd_dvd_right a b
  have hg : 0 < Int.gcd a b := by
    rcases Nat.eq_zero_or_pos (Int.gcd a b) with h | h
    · rw [h] at hy; simp at hy; omega
    · exact h
  have h0 : (Int.gcd a b : Int) ≠ 0 := by omega
  have hc : Int.gcd x y = 1 := by
    have h := Int.gcd_mul_left (Int.gcd a b : Int) x y
    rw [← hx, ← hy, Int.natAbs_natCast] at h
    exact (Nat.eq_of_mul_eq_mul_left hg (by rw [Nat.mul_one]; exact h.symm))
  generalize hge : (Int.gcd a b : Int) = g at *
  exact ⟨g, x, y, rfl, by omega, hx, hy, hc, by rw [hx, Int.mul_ediv_cancel_left _ h0], by rw [hy, Int.mul_ediv_cancel_left _ h0]⟩
theorem sgn_mul (xn yn : Bool) (a b : Int) : sgn xn a * sgn yn b = sgn (!(xn == yn)) (a * b) := by
  unfold sgn
  cases xn <;> cases yn <;> simp [Int.neg_mul, Int.mul_neg]
/-- A product of two numbers in lowest terms. -/
theorem timesS_norm (xn : Bool) (n1 d1 : Int) (yn : Bool) (n2 d2 : Int) (h1 : 0 ≤ n1) (h2 : 0 ≤ n2) (h3 : 0 < d1) (h4 : 0 < d2) (c1 : Int.gcd n1 d1 = 1) (c2 : Int.gcd n2 d2 = 1) :
    timesS xn n1 d1 yn n2 d2 = normS (sgn xn n1 * sgn yn n2) (d1 * d2) := by
  have hDp : 0 < d1 * d2 := Int.mul_pos h3 h4
  rw [sgn_mul]
  unfold timesS
  by_cases h0 : n1 = 0 ∨ n2 = 0
  · rw [if_pos h0]
    have : sgn (!(xn == yn)) (n1 * n2) = 0 := by
      have : n1 * n2 = 0 := by rcases h0 with rfl | rfl <;> simp
      rw [this]; unfold sgn; cases (!(xn == yn)) <;> rfl
    rw [this, normS_of (p := 0) (q := 1) (by decide) hDp (by decide) (by simp)]
    rfl
  · rw [if_neg h0]
    obtain ⟨g, a1, b2, hg, hgp, rfl, rfl, k1, q1, q2⟩ := gcd_split n1 d2 h4
    obtain ⟨h, a2, b1, hh, hhp, rfl, rfl, k2, q3, q4⟩ := gcd_split n2 d1 h3
    rw [hg, hh, q1, q2, q3, q4]
    have a1p : 0 < a1 := pos_of_mul hgp (by omega)
    have a2p : 0 < a2 := pos_of_mul hhp (by omega)
    have b1p := pos_of_mul hhp h3
    have b2p := pos_of_mul hgp h4
    have j1 : Int.gcd a1 b1 = 1 := gcd_dvd_one' ⟨h, Int.mul_comm _ _⟩ (gcd_dvd_one ⟨g, Int.mul_comm _ _⟩ c1)
    have j2 : Int.gcd a2 b2 = 1 := gcd_dvd_one' ⟨g, Int.mul_comm _ _⟩ (gcd_dvd_one ⟨h, Int.mul_comm _ _⟩ c2)
    have hc : Int.gcd (a1 * a2) (b1 * b2) = 1 := gcd_comm1 (gcd_mul_one (gcd_comm1 (gcd_mul_one j1 k2)) (gcd_comm1 (gcd_mul_one k1 j2)))
    have hap := Int.mul_pos a1p a2p
    have hbp := Int.mul_pos b1p b2p
    have hcross : sgn (!(xn == yn)) (a1 * a2) * (h * b1 * (g * b2)) = sgn (!(xn == yn)) (g * a1 * (h * a2)) * (b1 * b2) := by
      have hs : sgn (!(xn == yn)) (g * a1 * (h * a2)) = g * h * sgn (!(xn == yn)) (a1 * a2) := by
        unfold sgn
        cases (!(xn == yn)) <;> simp [Int.mul_neg, Int.mul_assoc, Int.mul_left_comm, Int.mul_comm]
      rw [hs]
      generalize sgn (!(xn == yn)) (a1 * a2) = U
      simp only [Int.mul_assoc, Int.mul_left_comm, Int.mul_comm]
    rw [ratS_eq (Int.le_of_lt hap) (fun _ => hap)]
    exact (normS_of hbp hDp (by rw [sgn_gcd]; exact hc) hcross).symm

theorem sgn_size (n : Int) : sgn (decide (n < 0)) (sizeZ n) = n := by
  unfold sgn sizeZ
  by_cases h : n < 0 <;> simp [h]
theorem sgn_size' (n : Int) : sgn (!decide (n < 0)) (sizeZ n) = -n := by
  unfold sgn sizeZ
  by_cases h : n < 0 <;> simp [h]
theorem sizeZ_gcd (n d : Int) : Int.gcd (sizeZ n) d = Int.gcd n d := by unfold sizeZ; split <;> simp
theorem sizeZ_nn (n : Int) : 0 ≤ sizeZ n := by unfold sizeZ; split <;> omega
theorem rightB_iff (n d : Int) : rightB n d = true ↔ 0 < d ∧ Int.gcd n d = 1 := by
  unfold rightB
  rw [Bool.and_eq_true, decide_eq_true_eq, beq_iff_eq, sizeZ_gcd]
  constructor
  · rintro ⟨h1, h2⟩; exact ⟨h1, by omega⟩
  · rintro ⟨h1, h2⟩; exact ⟨h1, by omega⟩
theorem addI_norm {a b : Int × Int} (ha : rightB a.1 a.2 = true) (hb : rightB b.1 b.2 = true) : addI a b = normS (a.1 * b.2 + b.1 * a.2) (a.2 * b.2) := by
  obtain ⟨a0, a1⟩ := (rightB_iff _ _).1 ha
  obtain ⟨b0, b1⟩ := (rightB_iff _ _).1 hb
  unfold addI
  rw [if_pos (by rw [ha, hb]; rfl), sizeZ_pos (d := a.2) a0, sizeZ_pos (d := b.2) b0, sumS_norm _ _ _ _ _ _ (sizeZ_nn _) (sizeZ_nn _) a0 b0 (by rw [sizeZ_gcd]; exact a1) (by rw [sizeZ_gcd]; exact b1), sgn_size, sgn_size]
theorem subI_norm {a b : Int × Int} (ha : rightB a.1 a.2 = true) (hb : rightB b.1 b.2 = true) : subI a b = normS (a.1 * b.2 - b.1 * a.2) (a.2 * b.2) := by
  obtain ⟨a0, a1⟩ := (rightB_iff _ _).1 ha
  obtain ⟨b0, b1⟩ := (rightB_iff _ _).1 hb
  unfold subI
  rw [if_pos (by rw [ha, hb]; rfl), sizeZ_pos (d := a.2) a0, sizeZ_pos (d := b.2) b0, sumS_norm _ _ _ _ _ _ (sizeZ_nn _) (sizeZ_nn _) a0 b0 (by rw [sizeZ_gcd]; exact a1) (by rw [sizeZ_gcd]; exact b1), sgn_size, sgn_size', Int.neg_mul, ← Int.sub_eq_add_neg]
theorem mulI_norm {a b : Int × Int} (ha : rightB a.1 a.2 = true) (hb : rightB b.1 b.2 = true) : mulI a b = normS (a.1 * b.1) (a.2 * b.2) := by
  obtain ⟨a0, a1⟩ := (rightB_iff _ _).1 ha
  obtain ⟨b0, b1⟩ := (rightB_iff _ _).1 hb
  unfold mulI
  rw [if_pos (by rw [ha, hb]; rfl), sizeZ_pos (d := a.2) a0, sizeZ_pos (d := b.2) b0, timesS_norm _ _ _ _ _ _ (sizeZ_nn _) (sizeZ_nn _) a0 b0 (by rw [sizeZ_gcd]; exact a1) (by rw [sizeZ_gcd]; exact b1), sgn_size, sgn_size]
theorem quoI_norm {a b : Int × Int} (ha : rightB a.1 a.2 = true) (hb : rightB b.1 b.2 = true) (h0 : b.1 ≠ 0) : quoI a b = normS (a.1 * sgn (decide (b.1 < 0)) b.2) (a.2 * sizeZ b.1) := by
  obtain ⟨a0, a1⟩ := (rightB_iff _ _).1 ha
  obtain ⟨b0, b1⟩ := (rightB_iff _ _).1 hb
  have hp : 0 < sizeZ b.1 := by unfold sizeZ; split <;> omega
  unfold quoI
  rw [if_pos (by rw [ha, hb]; rfl), if_neg h0, sizeZ_pos (d := a.2) a0, sizeZ_pos (d := b.2) b0, timesS_norm _ _ _ _ _ _ (sizeZ_nn _) (by omega) a0 hp (by rw [sizeZ_gcd]; exact a1) (by rw [Int.gcd_comm, sizeZ_gcd]; exact b1), sgn_size]
/-- What is in lowest terms is right. -/
theorem normS_right {N D : Int} (hD : 0 < D) {p : Int × Int} (h : normS N D = (p, true)) : rightB p.1 p.2 = true ∧ p.1 * D = N * p.2 := by
  obtain ⟨g, x, y, hg, hgp, rfl, rfl, hc, q1, q2⟩ := gcd_split N D hD
  unfold normS at h
  simp only at h
  split at h
  · cases h
  · injection h with h _
    rw [hg, q1, q2] at h
    subst h
    refine ⟨(rightB_iff _ _).2 ⟨pos_of_mul hgp hD, hc⟩, ?_⟩
    simp only [Int.mul_assoc, Int.mul_left_comm, Int.mul_comm]
end Go.Proofs.Ytgkdeknfmmgbdaa
