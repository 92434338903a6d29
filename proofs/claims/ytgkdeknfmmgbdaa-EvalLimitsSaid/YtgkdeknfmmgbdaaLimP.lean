/-
  Sums of prices and ones, in plain numbers: their values, their parts, their depths. Nothing is asked.
-/
import Derived.Test.YtgkdeknfmmgbdaaFr
namespace Go.Proofs.Ytgkdeknfmmgbdaa
open Go.RowKit

theorem right_one (a : Int) : rightB a 1 = true := by
  unfold rightB
  rw [Int.gcd_one]
  rfl
theorem addI_int (a b : Int) (ha : -1000000 ≤ a ∧ a ≤ 1000000) (hb : -1000000 ≤ b ∧ b ≤ 1000000) : addI (a, 1) (b, 1) = ((a + b, 1), true) := by
  unfold addI
  simp only [right_one, Bool.and_self, if_true]
  have e1 : sizeZ 1 = 1 := rfl
  rw [e1]
  unfold sumS
  have e2 : (Int.gcd 1 1 : Int) = 1 := rfl
  simp only [e2]
  have ht : (a < 0 ∧ sizeZ a = -a) ∨ (0 ≤ a ∧ sizeZ a = a) := by unfold sizeZ; split <;> omega
  have hu : (b < 0 ∧ sizeZ b = -b) ∨ (0 ≤ b ∧ sizeZ b = b) := by unfold sizeZ; split <;> omega
  have key : ((sumTop (decide (a < 0)) (sizeZ a) 1 (decide (b < 0)) (sizeZ b) 1).1 = true ∧ a + b = -(sumTop (decide (a < 0)) (sizeZ a) 1 (decide (b < 0)) (sizeZ b) 1).2 ∧ 0 ≤ (sumTop (decide (a < 0)) (sizeZ a) 1 (decide (b < 0)) (sizeZ b) 1).2) ∨
      ((sumTop (decide (a < 0)) (sizeZ a) 1 (decide (b < 0)) (sizeZ b) 1).1 = false ∧ a + b = (sumTop (decide (a < 0)) (sizeZ a) 1 (decide (b < 0)) (sizeZ b) 1).2 ∧ 0 ≤ (sumTop (decide (a < 0)) (sizeZ a) 1 (decide (b < 0)) (sizeZ b) 1).2) := by
    unfold sumTop
    simp only [e2, Int.ediv_one, Int.mul_one]
    rcases ht with ⟨h1, e⟩ | ⟨h1, e⟩ <;> rcases hu with ⟨h2, f⟩ | ⟨h2, f⟩ <;> rw [e, f]
    · rw [decide_eq_true h1, decide_eq_true h2]; simp only [if_true]; left; refine ⟨trivial, ?_, ?_⟩ <;> (try simp only) <;> omega
    · rw [decide_eq_true h1, decide_eq_false (show ¬ b < 0 by omega)]
      simp only [Bool.true_eq_false, if_false]
      split
      · left; refine ⟨rfl, ?_, ?_⟩ <;> simp only <;> omega
      · right; refine ⟨rfl, ?_, ?_⟩ <;> simp only <;> omega
    · rw [decide_eq_true h2, decide_eq_false (show ¬ a < 0 by omega)]
      simp only [Bool.false_eq_true, if_false]
      split
      · right; refine ⟨rfl, ?_, ?_⟩ <;> simp only <;> omega
      · left; refine ⟨rfl, ?_, ?_⟩ <;> simp only <;> omega
    · rw [decide_eq_false (show ¬ a < 0 by omega), decide_eq_false (show ¬ b < 0 by omega)]; simp only [if_true]; right; exact ⟨trivial, trivial, by omega⟩
  generalize sumTop (decide (a < 0)) (sizeZ a) 1 (decide (b < 0)) (sizeZ b) 1 = p at *
  obtain ⟨s, z⟩ := p
  simp only at key ⊢
  by_cases hz : z = 0
  · rw [if_pos hz]
    rcases key with ⟨-, h, -⟩ | ⟨-, h, -⟩ <;> rw [show a + b = 0 by omega]
  · rw [if_neg hz]
    have e3 : (Int.gcd 1 (z % 1) : Int) = 1 := by rw [Int.one_gcd]; rfl
    rw [e3]
    simp only [Int.ediv_one, Int.mul_one]
    rcases key with ⟨rfl, h, h0⟩ | ⟨rfl, h, h0⟩
    · unfold ratS
      rw [if_neg (by simp; omega), h]; rfl
    · unfold ratS
      rw [if_neg (by simp; omega), h]; rfl

theorem add_num : (addB.toList == [110, 117, 109]) = false := by kernel_rfl
theorem add_name : (addB.toList == [110, 97, 109, 101]) = false := by kernel_rfl
theorem opIx_add : opIx addB = 0 := by kernel_rfl
theorem value_add {vs : Vals} {t1 t2 : Ex} {a b : Int} (h1 : valueE vs t1 = .ok (a, 1)) (h2 : valueE vs t2 = .ok (b, 1)) (ha : -1000000 ≤ a ∧ a ≤ 1000000) (hb : -1000000 ≤ b ∧ b ≤ 1000000) : valueE vs (opE' addB t1 t2) = .ok (a + b, 1) := by
  rw [valueE, valueL, valueL, valueL, h1, h2, opIx_add]
  simp only [add_num, add_name, Bool.false_eq_true, if_false]
  show appE (applyI 0 (a, 1) (b, 1)) = _
  unfold applyI
  rw [if_neg (by omega)]
  show appE (if (addI (a, 1) (b, 1)).2 = true then ((addI (a, 1) (b, 1)).1, 0) else ((0, 0), 3)) = _
  rw [addI_int a b ha hb]
  rfl
theorem value_price (n : Int) : valueE [(priceB, n)] (nameE priceB) = .ok (n, 1) := by kernel_rfl
theorem formed_add {t1 t2 : Ex} (h1 : formedB t1 = true) (h2 : formedB t2 = true) : formedB (opE' addB t1 t2) = true := by
  rw [formedB, formedL, formedL, formedL, h1, h2, opIx_add, add_num, add_name]; kernel_rfl

/-- t is a sum of c prices. -/
structure Sm (n : Int) (c d : Nat) (t : Ex) : Prop where
  val : valueE [(priceB, n)] t = .ok ((c : Int) * n, 1)
  frm : formedB t = true
  parts : t.parts + 1 = 2 * c
  depth : t.depth ≤ d
theorem Sm.leaf (n : Int) : Sm n 1 1 (nameE priceB) := ⟨by rw [value_price]; simp, by kernel_rfl, rfl, Nat.le_refl _⟩
theorem Sm.more {n : Int} {c d d' : Nat} {t : Ex} (h : Sm n c d t) (hd : d ≤ d') : Sm n c d' t := ⟨h.val, h.frm, h.parts, Nat.le_trans h.depth hd⟩
theorem mul_bd' {c : Nat} {n : Int} (hc : c ≤ 100) (hn : -128 ≤ n ∧ n ≤ 127) : -1000000 ≤ (c : Int) * n ∧ (c : Int) * n ≤ 1000000 := by
  have h1 : (c : Int) * n ≤ (c : Int) * 127 := Int.mul_le_mul_of_nonneg_left hn.2 (by omega)
  have h2 : (c : Int) * (-128) ≤ (c : Int) * n := Int.mul_le_mul_of_nonneg_left hn.1 (by omega)
  omega
theorem Sm.add {n : Int} {c1 c2 d : Nat} {t1 t2 : Ex} (hn : -128 ≤ n ∧ n ≤ 127) (h1 : Sm n c1 d t1) (h2 : Sm n c2 d t2) (hc : c1 + c2 ≤ 100) : Sm n (c1 + c2) (d + 1) (opE' addB t1 t2) := by
  refine ⟨?_, formed_add h1.frm h2.frm, ?_, ?_⟩
  · rw [value_add h1.val h2.val (mul_bd' (by omega) hn) (mul_bd' (by omega) hn), ← Int.add_mul, Int.natCast_add]
  · have p1 := h1.parts; have p2 := h2.parts
    rw [Ex.parts, Ex.partsL, Ex.partsL, Ex.partsL]
    omega
  · have p1 := h1.depth; have p2 := h2.depth
    rw [Ex.depth, Ex.depthL, Ex.depthL, Ex.depthL]
    omega
theorem Sm.eval {n : Int} {c d : Nat} {t : Ex} (h : Sm n c d t) (hd : d ≤ 12) : evalI [(priceB, n)] t = if 60 < 2 * c - 1 then ((0, 0), 2) else (((c : Int) * n, 1), 0) := by
  have hp := h.parts; have hd' := h.depth
  unfold evalI wrongI
  rw [h.frm, h.val]
  by_cases hc : 60 < 2 * c - 1
  · rw [if_pos hc, if_neg (show ¬ (t.parts ≤ 60 ∧ t.depth ≤ 12) by omega)]; rfl
  · rw [if_neg hc, if_pos (show t.parts ≤ 60 ∧ t.depth ≤ 12 by omega)]; rfl

/-- The trees of a list are sums of m prices together. -/
def Sml (n : Int) (d : Nat) : List Ex → Nat → Prop
  | [], m => m = 0
  | t :: ts, m => ∃ c m', Sm n c d t ∧ Sml n d ts m' ∧ m = c + m'
theorem Sml.app {n : Int} {d : Nat} : ∀ {ts us : List Ex} {m k : Nat}, Sml n d ts m → Sml n d us k → Sml n d (ts ++ us) (m + k)
  | [], us, m, k, h, h2 => by
    have h' : m = 0 := h
    subst h'
    rw [Nat.zero_add]
    exact h2
  | t :: ts, us, m, k, h, h2 => by
    obtain ⟨c, m', h1, h3, rfl⟩ := h
    exact ⟨c, m' + k, h1, Sml.app h3 h2, by omega⟩
theorem Sml.one {n : Int} {c d : Nat} {t : Ex} (h : Sm n c d t) : Sml n d [t] c := ⟨c, 0, h, rfl, rfl⟩
theorem Sml.more {n : Int} {d d' : Nat} (hd : d ≤ d') : ∀ {ts : List Ex} {m : Nat}, Sml n d ts m → Sml n d' ts m
  | [], m, h => h
  | t :: ts, m, h => by
    obtain ⟨c, m', h1, h3, e⟩ := h
    exact ⟨c, m', h1.more hd, h3.more hd, e⟩
theorem Sml.reps (n : Int) : ∀ k, Sml n 1 (List.replicate k (nameE priceB)) k
  | 0 => rfl
  | k + 1 => ⟨1, k, Sm.leaf n, Sml.reps n k, by omega⟩

/-- A price and k ones. -/
def chainE : Nat → Ex
  | 0 => nameE priceB
  | k + 1 => opE' addB (chainE k) (numE (1, 1))
theorem chain_facts (n : Int) (hn : -128 ≤ n ∧ n ≤ 127) : ∀ k, k ≤ 100 → valueE [(priceB, n)] (chainE k) = .ok (n + k, 1) ∧ formedB (chainE k) = true ∧ (chainE k).parts = 2 * k + 1 ∧ (chainE k).depth = k + 1 ∧ twoB (chainE k) = true
  | 0, _ => ⟨by rw [chainE, value_price]; simp, by kernel_rfl, rfl, rfl, rfl⟩
  | k + 1, hk => by
    obtain ⟨h1, h2, h3, h4, h5⟩ := chain_facts n hn k (by omega)
    refine ⟨?_, formed_add h2 (by kernel_rfl), ?_, ?_, ?_⟩
    · rw [chainE, value_add (b := 1) h1 (by kernel_rfl) (by omega) (by omega), Int.add_assoc]; rfl
    · rw [chainE, Ex.parts, Ex.partsL, Ex.partsL, Ex.partsL, h3]
      show 1 + (2 * k + 1 + ((1 + 0) + 0)) = _
      omega
    · rw [chainE, Ex.depth, Ex.depthL, Ex.depthL, Ex.depthL, h4]
      show 1 + max (k + 1) (max (1 + 0) 0) = _
      omega
    · rw [chainE, twoB, twoL, twoL, twoL, h5]; rfl
theorem chain_eval (n : Int) (hn : -128 ≤ n ∧ n ≤ 127) (k : Nat) (hk : k ≤ 15) : evalI [(priceB, n)] (chainE k) = if k + 1 ≤ 12 then ((n + k, 1), 0) else ((0, 0), 2) := by
  obtain ⟨h1, h2, h3, h4, -⟩ := chain_facts n hn k (by omega)
  unfold evalI wrongI
  rw [h1, h2, h3, h4]
  by_cases hc : k + 1 ≤ 12
  · rw [if_pos hc, if_pos (show 2 * k + 1 ≤ 60 ∧ k + 1 ≤ 12 by omega)]; rfl
  · rw [if_neg hc, if_neg (show ¬ (2 * k + 1 ≤ 60 ∧ k + 1 ≤ 12) by omega)]; rfl

/-- How long a list of sums of a depth may be. -/
def LenOk (d L : Nat) : Prop := (d = 1 ∧ L ≤ 40) ∨ (d = 2 ∧ L ≤ 20) ∨ (d = 3 ∧ L ≤ 10) ∨ (d = 4 ∧ L ≤ 5) ∨ (d = 5 ∧ L ≤ 3) ∨ (d = 6 ∧ L ≤ 2) ∨ (d = 7 ∧ L ≤ 1)
theorem LenOk.next {d L k : Nat} (h : LenOk d L) (hL : 1 < L) (hk : 2 * k ≤ L + 1) : LenOk (d + 1) k := by
  unfold LenOk at *; omega
theorem LenOk.le {d L : Nat} (h : LenOk d L) : d ≤ 7 := by
  unfold LenOk at h; omega
theorem Sml.le {n : Int} {d : Nat} : ∀ {ts : List Ex} {m : Nat}, Sml n d ts m → ts.length ≤ m
  | [], _, _ => Nat.zero_le _
  | t :: ts, m, h => by
    obtain ⟨c, m', h1, h3, rfl⟩ := h
    have := Sml.le h3
    have := h1.parts
    simp only [List.length_cons]
    omega
/-- The next two trees, and what remains. -/
theorem Sml.two {n : Int} {d : Nat} {ts : List Ex} {i m : Nat} (h : Sml n d (ts.drop i) m) (h1 : i < ts.length) (h2 : i + 1 < ts.length) : ∃ c1 c2 m', Sm n c1 d ts[i] ∧ Sm n c2 d ts[i + 1] ∧ Sml n d (ts.drop (i + 2)) m' ∧ m = c1 + (c2 + m') := by
  rw [List.drop_eq_getElem_cons h1] at h
  obtain ⟨c1, m1, s1, h, rfl⟩ := h
  rw [List.drop_eq_getElem_cons h2] at h
  obtain ⟨c2, m2, s2, h, rfl⟩ := h
  exact ⟨c1, c2, m2, s1, s2, h, rfl⟩
theorem Sml.last {n : Int} {d : Nat} {ts : List Ex} {i m : Nat} (h : Sml n d (ts.drop i) m) (h1 : i < ts.length) (h2 : ts.length ≤ i + 1) : Sm n m d ts[i] := by
  rw [List.drop_eq_getElem_cons h1, List.drop_eq_nil_of_le h2] at h
  obtain ⟨c1, m1, s1, h, rfl⟩ := h
  have h' : m1 = 0 := h
  subst h'
  exact s1
end Go.Proofs.Ytgkdeknfmmgbdaa
