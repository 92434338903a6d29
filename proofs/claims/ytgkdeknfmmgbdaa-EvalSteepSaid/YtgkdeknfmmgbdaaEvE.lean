/-
  Package eval: the values of formulas as a plain function; what the operations give lies in the range.
-/
import Derived.Test.YtgkdeknfmmgbdaaEvD
namespace Go.Proofs.Ytgkdeknfmmgbdaa
set_option linter.unusedVariables false
set_option linter.unusedSimpArgs false
open Go.RowKit

theorem ratS_I2 (neg : Bool) (n d : Int) (h1 : 0 ≤ n) (h2 : 0 ≤ d) : I2 (ratS neg n d).1 := by
  unfold ratS
  split
  · exact ⟨by decide, by decide, by decide, by decide⟩
  · rename_i h
    cases neg <;> simp only [Bool.false_eq_true, if_false, if_true, and_true, and_false, or_false, false_or, not_or] at h ⊢
    · exact ⟨by show -9223372036854775808 ≤ n; omega, by show n ≤ 9223372036854775807; omega, by show -9223372036854775808 ≤ d; omega, by show d ≤ 9223372036854775807; omega⟩
    · exact ⟨by show -9223372036854775808 ≤ -n; omega, by show -n ≤ 9223372036854775807; omega, by show -9223372036854775808 ≤ d; omega, by show d ≤ 9223372036854775807; omega⟩

theorem div_nn {a b : Int} (h : 0 ≤ a) (h2 : 0 ≤ b) : 0 ≤ a / b := Int.ediv_nonneg h h2
theorem gcd_nn (a b : Int) : (0 : Int) ≤ (Int.gcd a b : Int) := Int.natCast_nonneg _

theorem sumS_I2 (xn : Bool) (n1 d1 : Int) (yn : Bool) (n2 d2 : Int) (h : SumOk n1 d1 n2 d2) : I2 (sumS xn n1 d1 yn n2 d2).1 := by
  unfold sumS
  simp only
  split
  · exact ⟨by decide, by decide, by decide, by decide⟩
  · obtain ⟨⟨a0, _⟩, ⟨b0, _⟩, ⟨c0, _⟩, ⟨e0, _⟩⟩ := h
    have ha := Int.mul_nonneg a0 (div_nn (a := d2) (by omega) (gcd_nn d1 d2))
    have hb := Int.mul_nonneg b0 (div_nn (a := d1) (by omega) (gcd_nn d1 d2))
    have ht : 0 ≤ (sumTop xn n1 d1 yn n2 d2).2 := by
      unfold sumTop
      simp only
      split
      · show (0 : Int) ≤ _ + _; omega
      · split
        · show (0 : Int) ≤ _ - _; omega
        · show (0 : Int) ≤ _ - _; omega
    exact ratS_I2 _ _ _ (div_nn ht (gcd_nn _ _)) (Int.mul_nonneg (div_nn (by omega) (gcd_nn _ _)) (div_nn (by omega) (gcd_nn _ _)))

theorem timesS_I2 (xn : Bool) (n1 d1 : Int) (yn : Bool) (n2 d2 : Int) (h1 : 0 ≤ n1) (h2 : 0 ≤ d1) (h3 : 0 ≤ n2) (h4 : 0 ≤ d2) : I2 (timesS xn n1 d1 yn n2 d2).1 := by
  unfold timesS
  split
  · exact ⟨by decide, by decide, by decide, by decide⟩
  · exact ratS_I2 _ _ _ (Int.mul_nonneg (div_nn h1 (gcd_nn _ _)) (div_nn h3 (gcd_nn _ _))) (Int.mul_nonneg (div_nn h2 (gcd_nn _ _)) (div_nn h4 (gcd_nn _ _)))

theorem doI_I2 (i : Nat) (a b : Int × Int) (ha : I2 a) (hb : I2 b) : I2 (doI i a b).1 := by
  have z : I2 ((0 : Int), (1 : Int)) := ⟨by decide, by decide, by decide, by decide⟩
  have sz : ∀ n : Int, 0 ≤ sizeZ n := fun n => by unfold sizeZ; split <;> omega
  match i with
  | 0 =>
    show I2 (addI a b).1
    unfold addI
    split
    · exact sumS_I2 _ _ _ _ _ _ (sumOk_of ha hb (by assumption))
    · exact z
  | 1 =>
    show I2 (subI a b).1
    unfold subI
    split
    · exact sumS_I2 _ _ _ _ _ _ (sumOk_of ha hb (by assumption))
    · exact z
  | 2 =>
    show I2 (mulI a b).1
    unfold mulI
    split
    · exact timesS_I2 _ _ _ _ _ _ (sz _) (sz _) (sz _) (sz _)
    · exact z
  | 3 =>
    show I2 (quoI a b).1
    unfold quoI
    split
    · split
      · exact z
      · exact timesS_I2 _ _ _ _ _ _ (sz _) (sz _) (sz _) (sz _)
    · exact z
  | 4 =>
    show I2 (minI a b).1
    unfold minI
    simp only
    split <;> assumption
  | _ + 5 =>
    show I2 (maxI a b).1
    unfold maxI
    simp only
    split <;> assumption

theorem applyI_I2 (i : Nat) (a b : Int × Int) (ha : I2 a) (hb : I2 b) : I2 (applyI i a b).1 := by
  have z : I2 ((0 : Int), (0 : Int)) := ⟨by decide, by decide, by decide, by decide⟩
  unfold applyI
  split
  · exact z
  · split
    · exact doI_I2 i a b ha hb
    · exact z

/-- The values that names have. -/
abbrev Vals := List (ByteArray × Int)
def look : Vals → ByteArray → Option Int
  | [], _ => none
  | x :: l, nm => if x.1.toList == nm.toList then some x.2 else look l nm

def appE (p : (Int × Int) × Int) : Except Int (Int × Int) := if p.2 = 0 then .ok p.1 else .error p.2
mutual
def valueE (vs : Vals) : Ex → Except Int (Int × Int)
  | .mk op n nm ts =>
    if op.toList == [110, 117, 109] then .ok n
    else if op.toList == [110, 97, 109, 101] then (match look vs nm with | some k => .ok (k, 1) | none => .error 13)
    else match valueL vs ts with
      | [a, b] => match a with
        | .error f => .error f
        | .ok x => match b with
          | .error f => .error f
          | .ok y => appE (applyI (opIx op).toNat x y)
      | _ => .error 0
def valueL (vs : Vals) : List Ex → List (Except Int (Int × Int))
  | [] => []
  | t :: ts => valueE vs t :: valueL vs ts
end

def VR (vs : Vals) : Prop := ∀ x ∈ vs, -9223372036854775808 ≤ x.2 ∧ x.2 ≤ 9223372036854775807
theorem look_range {vs : Vals} (h : VR vs) {nm : ByteArray} {k : Int} (hk : look vs nm = some k) : -9223372036854775808 ≤ k ∧ k ≤ 9223372036854775807 := by
  induction vs with
  | nil => cases hk
  | cons x l ih =>
    rw [look] at hk
    split at hk
    · injection hk with hk
      rw [← hk]
      exact h x List.mem_cons_self
    · exact ih (fun y hy => h y (List.mem_cons_of_mem _ hy)) hk

/-- The slice value sl, in the world w, holds the values vs. -/
def VRd (S : Nat → Prop) (w : World) (vs : Vals) (sl : Value) : Prop :=
  ∃ base cap, sl = .slice base vs.length cap ∧ vs.length ≤ 1000000 ∧ VR vs ∧ (vs = [] ∨ ∃ b, base = some ⟨b, 0, none⟩ ∧ S b ∧ ∀ k (h : k < vs.length), w.cell? ⟨b, k * 2, none⟩ = some (.string vs[k].1) ∧ w.cell? ⟨b, k * 2 + 1, none⟩ = some (.int .i64 vs[k].2))

theorem VRd.frame {S S' : Nat → Prop} {w w' : World} (h : ∀ b o, S b → b < w.heap.size → w'.cell? ⟨b, o, none⟩ = w.cell? ⟨b, o, none⟩) (hS : ∀ b, S b → S' b) {vs : Vals} {sl : Value} (r : VRd S w vs sl) : VRd S' w' vs sl := by
  obtain ⟨base, cap, h1, h2, h3, h4⟩ := r
  refine ⟨base, cap, h1, h2, h3, h4.imp id fun ⟨b, hb, hs, hc⟩ => ⟨b, hb, hS b hs, fun k hk => ?_⟩⟩
  have hbl := World.block_lt_of_cell? w _ (hc k hk).1
  exact ⟨(h b _ hs hbl).trans (hc k hk).1, (h b _ hs hbl).trans (hc k hk).2⟩
theorem VRd.ext {S : Nat → Prop} {w w' : World} (e : Ext w w') {vs : Vals} {sl : Value} (r : VRd S w vs sl) : VRd S w' vs sl := r.frame (fun b o _ hb => e.cells.1 b o hb) (fun _ h => h)

/-- The first place of a name. -/
theorem idx_look (vs : Vals) (nm : ByteArray) : ∀ f, f ≤ vs.length →
    (idxFrom (fun k => if h : k < vs.length then vs[k].1.toList == nm.toList else false) vs.length f = -1 ∧ look (vs.drop (vs.length - f)) nm = none) ∨
    ∃ k, ∃ h : k < vs.length, idxFrom (fun k => if h : k < vs.length then vs[k].1.toList == nm.toList else false) vs.length f = (k : Int) ∧ look (vs.drop (vs.length - f)) nm = some vs[k].2
  | 0, _ => .inl ⟨rfl, by rw [Nat.sub_zero, List.drop_length]; rfl⟩
  | f + 1, hf => by
    have hlt : vs.length - (f + 1) < vs.length := Nat.sub_lt (by omega) (by omega)
    have hst : vs.length - (f + 1) + 1 = vs.length - f := by omega
    have hf' : f ≤ vs.length := by omega
    rw [idxFrom, List.drop_eq_getElem_cons hlt, look, dif_pos hlt]
    split
    · exact .inr ⟨_, hlt, rfl, rfl⟩
    · rw [hst]
      exact idx_look vs nm f hf'

end Go.Proofs.Ytgkdeknfmmgbdaa
