/-
  Lemmas of this claim (JtK). Nothing is asked.
-/
import Derived.Test.YteomcpplajeidaaGreatJtJ
namespace Go.Proofs.YteomcpplajeidaaGreat
set_option linter.unusedVariables false
set_option linter.unusedSimpArgs false
set_option maxRecDepth 100000
open Go.RowKit
theorem ratS_I2 (neg : Bool) (n d : Int) (h1 : 0 ≤ n) (h2 : 0 ≤ d) : I2 (ratS neg n d).1 := by
  unfold ratS
  split
  · exact ⟨by decide, by decide, by decide, by decide⟩
  · rename_i h
    cases neg <;> simp only [Bool.false_eq_true, if_false, if_true, and_true, and_false, or_false, false_or, not_or] at h ⊢
    · exact ⟨by show -9223372036854775808 ≤ n; omega, by show n ≤ 9223372036854775807; omega, by show -9223372036854775808 ≤ d; omega, by show d ≤ 9223372036854775807; omega⟩
    · exact ⟨by show -9223372036854775808 ≤ -n; omega, by show -n ≤ 9223372036854775807; omega, by show -9223372036854775808 ≤ d; omega, by show d ≤ 9223372036854775807; omega⟩
theorem div_nn {a b : Int} (h : 0 ≤ a) (h2 : 0 ≤ b) : 0 ≤ a / b := Int.ediv_nonneg h h2
theorem gcd_nn (a b : Int) : (0 : Int) ≤ (Int.gcd a b : Int) := Int.natCast_nonneg _
theorem sumS_I2 (xn : Bool) (n1 d1 : Int) (yn : Bool) (n2 d2 : Int) (h : SumOk n1 d1 n2 d2) : I2 (sumS xn n1 d1 yn n2 d2).1 := by
  unfold sumS
  simp only
  split
  · exact ⟨by decide, by decide, by decide, by decide⟩
  · obtain ⟨⟨a0, _⟩, ⟨b0, _⟩, ⟨c0, _⟩, ⟨e0, _⟩⟩ := h
    have ha := Int.mul_nonneg a0 (div_nn (a := d2) (by omega) (gcd_nn d1 d2))
    have hb := Int.mul_nonneg b0 (div_nn (a := d1) (by omega) (gcd_nn d1 d2))
    have ht : 0 ≤ (sumTop xn n1 d1 yn n2 d2).2 := by
      unfold sumTop
      simp only
      split
      · show (0 : Int) ≤ _ + _; omega
      · split
        · show (0 : Int) ≤ _ - _; omega
        · show (0 : Int) ≤ _ - _; omega
    exact ratS_I2 _ _ _ (div_nn ht (gcd_nn _ _)) (Int.mul_nonneg (div_nn (by omega) (gcd_nn _ _)) (div_nn (by omega) (gcd_nn _ _)))
theorem timesS_I2 (xn : Bool) (n1 d1 : Int) (yn : Bool) (n2 d2 : Int) (h1 : 0 ≤ n1) (h2 : 0 ≤ d1) (h3 : 0 ≤ n2) (h4 : 0 ≤ d2) : I2 (timesS xn n1 d1 yn n2 d2).1 := by
  unfold timesS
  split
  · exact ⟨by decide, by decide, by decide, by decide⟩
  · exact ratS_I2 _ _ _ (Int.mul_nonneg (div_nn h1 (gcd_nn _ _)) (div_nn h3 (gcd_nn _ _))) (Int.mul_nonneg (div_nn h2 (gcd_nn _ _)) (div_nn h4 (gcd_nn _ _)))
theorem doI_I2 (i : Nat) (a b : Int × Int) (ha : I2 a) (hb : I2 b) : I2 (doI i a b).1 := by
  have z : I2 ((0 : Int), (1 : Int)) := ⟨by decide, by decide, by decide, by decide⟩
  have sz : ∀ n : Int, 0 ≤ sizeZ n := fun n => by unfold sizeZ; split <;> omega
  match i with
  | 0 =>
    show I2 (addI a b).1
    unfold addI
    split
    · exact sumS_I2 _ _ _ _ _ _ (sumOk_of ha hb (by assumption))
    · exact z
  | 1 =>
    show I2 (subI a b).1
    unfold subI
    split
    · exact sumS_I2 _ _ _ _ _ _ (sumOk_of ha hb (by assumption))
    · exact z
  | 2 =>
    show I2 (mulI a b).1
    unfold mulI
    split
    · exact timesS_I2 _ _ _ _ _ _ (sz _) (sz _) (sz _) (sz _)
    · exact z
  | 3 =>
    show I2 (quoI a b).1
    unfold quoI
    split
    · split
      · exact z
      · exact timesS_I2 _ _ _ _ _ _ (sz _) (sz _) (sz _) (sz _)
    · exact z
  | 4 =>
    show I2 (minI a b).1
    unfold minI
    simp only
    split <;> assumption
  | _ + 5 =>
    show I2 (maxI a b).1
    unfold maxI
    simp only
    split <;> assumption
theorem applyI_I2 (i : Nat) (a b : Int × Int) (ha : I2 a) (hb : I2 b) : I2 (applyI i a b).1 := by
  have z : I2 ((0 : Int), (0 : Int)) := ⟨by decide, by decide, by decide, by decide⟩
  unfold applyI
  split
  · exact z
  · split
    · exact doI_I2 i a b ha hb
    · exact z
abbrev Vals := List (ByteArray × Int)
def look : Vals → ByteArray → Option Int
  | [], _ => none
  | x :: l, nm => if x.1.toList == nm.toList then some x.2 else look l nm
def appE (p : (Int × Int) × Int) : Except Int (Int × Int) := if p.2 = 0 then .ok p.1 else .error p.2
mutual
def valueE (vs : Vals) : Ex → Except Int (Int × Int)
  | .mk op n nm ts =>
    if op.toList == [110, 117, 109] then .ok n
    else if op.toList == [110, 97, 109, 101] then (match look vs nm with | some k => .ok (k, 1) | none => .error 13)
    else match valueL vs ts with
      | [a, b] => match a with
        | .error f => .error f
        | .ok x => match b with
          | .error f => .error f
          | .ok y => appE (applyI (opIx op).toNat x y)
      | _ => .error 0
def valueL (vs : Vals) : List Ex → List (Except Int (Int × Int))
  | [] => []
  | t :: ts => valueE vs t :: valueL vs ts
end
def VR (vs : Vals) : Prop := ∀ x ∈ vs, -9223372036854775808 ≤ x.2 ∧ x.2 ≤ 9223372036854775807
theorem look_range {vs : Vals} (h : VR vs) {nm : ByteArray} {k : Int} (hk : look vs nm = some k) : -9223372036854775808 ≤ k ∧ k ≤ 9223372036854775807 := by
  induction vs with
  | nil => cases hk
  | cons x l ih =>
    rw [look] at hk
    split at hk
    · injection hk with hk
      rw [← hk]
      exact h x List.mem_cons_self
    · exact ih (fun y hy => h y (List.mem_cons_of_mem _ hy)) hk
def VRd (S : Nat → Prop) (w : World) (vs : Vals) (sl : Value) : Prop :=
  ∃ base cap, sl = .slice base vs.length cap ∧ vs.length ≤ 1000000 ∧ VR vs ∧ (vs = [] ∨ ∃ b, base = some ⟨b, 0, none⟩ ∧ S b ∧ ∀ k (h : k < vs.length), w.cell? ⟨b, k * 2, none⟩ = some (.string vs[k].1) ∧ w.cell? ⟨b, k * 2 + 1, none⟩ = some (.int .i64 vs[k].2))
theorem VRd.frame {S S' : Nat → Prop} {w w' : World} (h : ∀ b o, S b → b < w.heap.size → w'.cell? ⟨b, o, none⟩ = w.cell? ⟨b, o, none⟩) (hS : ∀ b, S b → S' b) {vs : Vals} {sl : Value} (r : VRd S w vs sl) : VRd S' w' vs sl := by
  obtain ⟨base, cap, h1, h2, h3, h4⟩ := r
  refine ⟨base, cap, h1, h2, h3, h4.imp id fun ⟨b, hb, hs, hc⟩ => ⟨b, hb, hS b hs, fun k hk => ?_⟩⟩
  have hbl := World.block_lt_of_cell? w _ (hc k hk).1
  exact ⟨(h b _ hs hbl).trans (hc k hk).1, (h b _ hs hbl).trans (hc k hk).2⟩
theorem VRd.ext {S : Nat → Prop} {w w' : World} (e : Ext w w') {vs : Vals} {sl : Value} (r : VRd S w vs sl) : VRd S w' vs sl := r.frame (fun b o _ hb => e.cells.1 b o hb) (fun _ h => h)
theorem idx_look (vs : Vals) (nm : ByteArray) : ∀ f, f ≤ vs.length →
    (idxFrom (fun k => if h : k < vs.length then vs[k].1.toList == nm.toList else false) vs.length f = -1 ∧ look (vs.drop (vs.length - f)) nm = none) ∨
    ∃ k, ∃ h : k < vs.length, idxFrom (fun k => if h : k < vs.length then vs[k].1.toList == nm.toList else false) vs.length f = (k : Int) ∧ look (vs.drop (vs.length - f)) nm = some vs[k].2
  | 0, _ => .inl ⟨rfl, by rw [Nat.sub_zero, List.drop_length]; rfl⟩
  | f + 1, hf => by
    have hlt : vs.length - (f + 1) < vs.length := Nat.sub_lt (by omega) (by omega)
    have hst : vs.length - (f + 1) + 1 = vs.length - f := by omega
    have hf' : f ≤ vs.length := by omega
    rw [idxFrom, List.drop_eq_getElem_cons hlt, look, dif_pos hlt]
    split
    · exact .inr ⟨_, hlt, rfl, rfl⟩
    · rw [hst]
      exact idx_look vs nm f hf'
end Go.Proofs.YteomcpplajeidaaGreat
namespace Go.Proofs.YteomcpplajeidaaGreat
set_option linter.unusedVariables false
set_option linter.unusedSimpArgs false
set_option maxRecDepth 100000
open Go.RowKit
theorem same71 (s nm : ByteArray) (g : Value) (q : Nat) (w : World) (h : w.cell? ⟨q, 3, none⟩ = some (.string nm)) :
    Calls Tryz.prog 135 #[.agg #[.string s, g], .pointer (some ⟨q, 0, none⟩)] w fun e w' => e = .returned (.bool (s.toList == nm.toList)) ∧ Ext w w' := by
  have hpl : q < w.heap.size := World.block_lt_of_cell? w _ h
  go_enter Tryz.func135, Tryz.ntmps135
  go_wp2
  go_ret
  exact ⟨rfl, (by with_reducible repeat (first | exact Ext.refl _ | assumption | apply Ext.drewN | apply Ext.drew | apply Ext.alloc | (refine Ext.setCell ?_ (by simp <;> omega) _) | (refine Ext.trans ?_ (by assumption))))⟩
theorem enters71 (args : Array Value) (w : World) : (callFunc 135 args).run Tryz.prog w = .ok (.enter 135 args) w := by go_simp
def placeI (vs : Vals) (nm : ByteArray) : Int := idxZ (fun k => if h : k < vs.length then vs[k].1.toList == nm.toList else false) vs.length
theorem place_any (S : Nat → Prop) (vs : Vals) (nm : ByteArray) (w : World) (sl : Value) (hs : VRd S w vs sl) (q : Nat) (hq : w.cell? ⟨q, 3, none⟩ = some (.string nm)) :
    Calls Tryz.prog 126 #[sl, .func (.func 135) #[] #[.pointer (some ⟨q, 0, none⟩)]] w fun e w' => e = .returned (.int .i64 (placeI vs nm)) ∧ Ext w w' := by
  obtain ⟨base, cap, rfl, hn, -, hr⟩ := hs
  have hql : q < w.heap.size := World.block_lt_of_cell? w _ hq
  rcases hr with rfl | ⟨b, rfl, -, hc⟩
  · exact index70_nil base cap _ w
  · refine index70 b 0 vs.length cap hn 135 _ (fun k j => if h : k < vs.length then (if j = 0 then .string vs[k].1 else .int .i64 vs[k].2) else undef) _ w ?_ ?_ ?_ enters71
    · intro k hk
      rw [Nat.zero_add, (hc k hk).1]
      simp [hk]
    · intro k hk
      rw [Nat.zero_add, (hc k hk).2]
      simp [hk]
    · intro k w' hk hx
      simp only [hk, dif_pos, if_true]
      exact same71 vs[k].1 nm _ q w' ((hx.cells.1 q 3 hql).trans hq)
theorem place_none {vs : Vals} {nm : ByteArray} (h : look vs nm = none) : placeI vs nm = -1 := by
  rcases idx_look vs nm vs.length (Nat.le_refl _) with ⟨h1, _⟩ | ⟨k, hk, _, h2⟩
  · exact h1
  · rw [Nat.sub_self, List.drop_zero, h] at h2; cases h2
theorem place_some {vs : Vals} {nm : ByteArray} {n : Int} (h : look vs nm = some n) : ∃ k, ∃ hk : k < vs.length, placeI vs nm = (k : Int) ∧ vs[k].2 = n := by
  rcases idx_look vs nm vs.length (Nat.le_refl _) with ⟨_, h2⟩ | ⟨k, hk, h1, h2⟩
  · rw [Nat.sub_self, List.drop_zero, h] at h2; cases h2
  · rw [Nat.sub_self, List.drop_zero, h] at h2
    injection h2 with h2
    exact ⟨k, hk, h1, h2.symm⟩
def endE : Except Int (Int × Int) → Ending
  | .ok x => .returned (rv x)
  | .error f => .panicked [{ v := .iface 159 (.agg #[.int .i64 f]), recovered := false }]
theorem value_num (S : Nat → Prop) (op : ByteArray) (n : Int × Int) (nm : ByteArray) (ts : List Ex) (h : (op.toList == [110, 117, 109]) = true) (w : World) (v sl : Value) (hv : Rd S w (.mk op n nm ts) v) :
    Calls Tryz.prog 90 #[v, sl] w fun e w' => e = .returned (rv n) ∧ Ext w w' := by
  unfold Rd at hv
  obtain ⟨base, cap, rfl, -, -, -⟩ := hv
  go_enter Tryz.func90, Tryz.ntmps90
  go_wp2
  exact bodyPost_ret (v := rv n) (by simp [results, Tryz.results90, go_sem]) rfl ⟨rfl, (by with_reducible repeat (first | exact Ext.refl _ | assumption | apply Ext.drewN | apply Ext.drew | apply Ext.alloc | (refine Ext.setCell ?_ (by simp <;> omega) _) | (refine Ext.trans ?_ (by assumption))))⟩
theorem value_name (S : Nat → Prop) (op : ByteArray) (n : Int × Int) (nm : ByteArray) (ts : List Ex) (h0 : (op.toList == [110, 117, 109]) = false) (h : (op.toList == [110, 97, 109, 101]) = true) (vs : Vals) (w : World) (v sl : Value) (hv : Rd S w (.mk op n nm ts) v) (hs : VRd S w vs sl) :
    Calls Tryz.prog 90 #[v, sl] w fun e w' => e = endE (match look vs nm with | some k => .ok (k, 1) | none => .error 13) ∧ Ext w w' := by
  unfold Rd at hv
  obtain ⟨base, cap, rfl, -, -, -⟩ := hv
  have hmf : ∀ (fn : Fn) (first cap : Array Value) (w : World), (Instr.makeFunc fn first cap).run Tryz.prog w = .ok (.func fn first cap) w := fun _ _ _ _ => rfl
  have HP := Lib.hid (fun w' (hw : Ext w w') => place_any S vs nm w' sl (hs.ext hw))
  cases hl : look vs nm with
  | none =>
    rw [place_none hl] at HP
    simp only [endE]
    clear hl
    go_enter Tryz.func90, Tryz.ntmps90
    go_wp2_with (go_at_call 126; (with_reducible refine (HP.out _ (by with_reducible repeat (first | exact Ext.refl _ | assumption | apply Ext.drewN | apply Ext.drew | apply Ext.alloc | (refine Ext.setCell ?_ (by simp <;> omega) _) | (refine Ext.trans ?_ (by assumption)))) _ ?_).mono ?_); (simp [go_sem]); rintro e w1 ⟨rfl, hb⟩; obtain ⟨hc, hf⟩ := hb.cells)
    exact ⟨rfl, rfl, (by with_reducible repeat (first | exact Ext.refl _ | assumption | apply Ext.drewN | apply Ext.drew | apply Ext.alloc | (refine Ext.setCell ?_ (by simp <;> omega) _) | (refine Ext.trans ?_ (by assumption))))⟩
  | some z =>
    obtain ⟨k, hk, hp, hz⟩ := place_some hl
    obtain ⟨base', cap', rfl, hn, -, hr⟩ := hs
    rcases hr with rfl | ⟨b, rfl, -, hc⟩
    · cases hk
    have hck := (hc k hk).2
    rw [hz] at hck
    have hbl : b < w.heap.size := World.block_lt_of_cell? w _ hck
    have hkk : k < 1000001 := by omega
    rw [hp] at HP
    have HO := Lib.hid (fun w => Of_any z w)
    simp only [endE]
    clear hl hc hp hz
    go_enter Tryz.func90, Tryz.ntmps90
    go_wp2_with (first
      | (go_at_call 126; (with_reducible refine (HP.out _ (by with_reducible repeat (first | exact Ext.refl _ | assumption | apply Ext.drewN | apply Ext.drew | apply Ext.alloc | (refine Ext.setCell ?_ (by simp <;> omega) _) | (refine Ext.trans ?_ (by assumption)))) _ ?_).mono ?_); (simp [go_sem]); rintro e w1 ⟨rfl, hb⟩; obtain ⟨hc, hf⟩ := hb.cells; have hz := hb.size; simp at hz; have z1 : w.heap.size < w1.heap.size := (by omega); have z2 : w.heap.size + 1 < w1.heap.size := (by omega); have z3 : b < w.heap.size + 1 := (by omega); have z4 : b < w.heap.size + 1 + 1 := (by omega))
      | (go_at_call 136; (with_reducible refine (HO.out _).mono ?_); rintro e w2 ⟨rfl, hb2⟩; obtain ⟨hc2, hf2⟩ := hb2.cells))
    exact bodyPost_ret (v := rv (z, 1)) (by simp [results, Tryz.results90, go_sem, hc, hc2, z1, z2]) rfl ⟨rfl, (by with_reducible repeat (first | exact Ext.refl _ | assumption | apply Ext.drewN | apply Ext.drew | apply Ext.alloc | (refine Ext.setCell ?_ (by simp <;> omega) _) | (refine Ext.trans ?_ (by assumption))))⟩
set_option maxRecDepth 100000 in
set_option maxHeartbeats 1000000 in
theorem value_op1 (S : Nat → Prop) (op : ByteArray) (n : Int × Int) (nm : ByteArray) (ta tb : Ex) (h0 : (op.toList == [110, 117, 109]) = false) (h : (op.toList == [110, 97, 109, 101]) = false) (hi : ¬ opIx op = -1)
    (vs : Vals) (w : World) (v sl : Value) (hv : Rd S w (.mk op n nm [ta, tb]) v) (hs : VRd S w vs sl) (ra rb : Except Int (Int × Int))
    (ia : ∀ (w : World) (v sl : Value), Rd S w ta v → VRd S w vs sl → Calls Tryz.prog 90 #[v, sl] w fun e w' => e = endE ra ∧ Ext w w')
    (ib : ∀ (w : World) (v sl : Value), Rd S w tb v → VRd S w vs sl → Calls Tryz.prog 90 #[v, sl] w fun e w' => e = endE rb ∧ Ext w w') (f : Int) (hra : ra = .error f) :
    Calls Tryz.prog 90 #[v, sl] w fun e w' => e = endE (.error f) ∧ Ext w w' := by
  subst hra
  unfold Rd at hv
  obtain ⟨base, cap, rfl, -, -, hr⟩ := hv
  rcases hr with hr | ⟨b, rfl, -, hl⟩
  · cases hr
  obtain ⟨c, hc, hra⟩ := hl.get 0 (by simp)
  obtain ⟨d, hd, hrb⟩ := hl.get 1 (by simp)
  obtain ⟨oa, a1, a2, na, ba, la, ca, c0, c1, c2, c3, c4, ea⟩ := hra.shape
  obtain ⟨ob, b1, b2, nb, bb, lb, cb, d0, d1, d2, d3, d4, eb⟩ := hrb.shape
  simp only [List.getElem_cons_zero, List.getElem_cons_succ] at hra hrb
  rw [ea] at hra
  rw [eb] at hrb
  have hbl : b < w.heap.size := World.block_lt_of_cell? w _ (hc 0 (by decide))
  have k0 := (hc 0 (by decide)).trans (congrArg some c0)
  have k1 := (hc 1 (by decide)).trans (congrArg some c1)
  have k2 := (hc 2 (by decide)).trans (congrArg some c2)
  have k3 := (hc 3 (by decide)).trans (congrArg some c3)
  have k4 := (hc 4 (by decide)).trans (congrArg some c4)
  have k5 := (hd 0 (by decide)).trans (congrArg some d0)
  have k6 := (hd 1 (by decide)).trans (congrArg some d1)
  have k7 := (hd 2 (by decide)).trans (congrArg some d2)
  have k8 := (hd 3 (by decide)).trans (congrArg some d3)
  have k9 := (hd 4 (by decide)).trans (congrArg some d4)
  simp only [Nat.zero_add, Nat.zero_mul, Nat.add_zero, Nat.one_mul, Nat.reduceAdd] at k0 k1 k2 k3 k4 k5 k6 k7 k8 k9
  have IA := Lib.hid (fun w' (hw : Ext w w') => ia w' _ sl (Rd.ext hw hra) (hs.ext hw))
  have IB := Lib.hid (fun w' (hw : Ext w w') => ib w' _ sl (Rd.ext hw hrb) (hs.ext hw))
  have HF := Lib.hid (find_some op hi)
  clear hc hd c0 c1 c2 c3 c4 d0 d1 d2 d3 d4 ea eb hra hrb hl ia ib hs
  have g1 : b < w.heap.size + 1 := by omega
  have g2 : b < w.heap.size + 1 + 1 := by omega
  simp only [endE] at IA ⊢
  go_enter Tryz.func90, Tryz.ntmps90
  go_wp2_with (first
    | (go_at_call 137; (with_reducible refine (HF.out _).mono ?_); rintro e w1 ⟨rfl, hb⟩; obtain ⟨hc, hf⟩ := hb.cells; have hz := hb.size; simp at hz; have z1 : w.heap.size < w1.heap.size := (by omega); have z2 : b < w1.heap.size := (by omega))
    | (go_at_call 90; (with_reducible refine (IA.out _ (by with_reducible repeat (first | exact Ext.refl _ | assumption | apply Ext.drewN | apply Ext.drew | apply Ext.alloc | (refine Ext.setCell ?_ (by simp <;> omega) _) | (refine Ext.trans ?_ (by assumption))))).mono ?_); rintro e w2 ⟨rfl, hb2⟩))
  exact ⟨rfl, rfl, (by with_reducible repeat (first | exact Ext.refl _ | assumption | apply Ext.drewN | apply Ext.drew | apply Ext.alloc | (refine Ext.setCell ?_ (by simp <;> omega) _) | (refine Ext.trans ?_ (by assumption))))⟩
end Go.Proofs.YteomcpplajeidaaGreat
namespace Go.Proofs.YteomcpplajeidaaGreat
set_option linter.unusedVariables false
set_option linter.unusedSimpArgs false
set_option maxRecDepth 100000
open Go.RowKit
set_option maxRecDepth 100000 in
set_option maxHeartbeats 1000000 in
theorem value_op2 (S : Nat → Prop) (op : ByteArray) (n : Int × Int) (nm : ByteArray) (ta tb : Ex) (h0 : (op.toList == [110, 117, 109]) = false) (h : (op.toList == [110, 97, 109, 101]) = false) (hi : ¬ opIx op = -1)
    (vs : Vals) (w : World) (v sl : Value) (hv : Rd S w (.mk op n nm [ta, tb]) v) (hs : VRd S w vs sl) (ra rb : Except Int (Int × Int))
    (ia : ∀ (w : World) (v sl : Value), Rd S w ta v → VRd S w vs sl → Calls Tryz.prog 90 #[v, sl] w fun e w' => e = endE ra ∧ Ext w w')
    (ib : ∀ (w : World) (v sl : Value), Rd S w tb v → VRd S w vs sl → Calls Tryz.prog 90 #[v, sl] w fun e w' => e = endE rb ∧ Ext w w') (x : Int × Int) (f : Int) (hra : ra = .ok x) (hrb : rb = .error f) :
    Calls Tryz.prog 90 #[v, sl] w fun e w' => e = endE (.error f) ∧ Ext w w' := by
  subst hra hrb
  unfold Rd at hv
  obtain ⟨base, cap, rfl, -, -, hr⟩ := hv
  rcases hr with hr | ⟨b, rfl, -, hl⟩
  · cases hr
  obtain ⟨c, hc, hra⟩ := hl.get 0 (by simp)
  obtain ⟨d, hd, hrb⟩ := hl.get 1 (by simp)
  obtain ⟨oa, a1, a2, na, ba, la, ca, c0, c1, c2, c3, c4, ea⟩ := hra.shape
  obtain ⟨ob, b1, b2, nb, bb, lb, cb, d0, d1, d2, d3, d4, eb⟩ := hrb.shape
  simp only [List.getElem_cons_zero, List.getElem_cons_succ] at hra hrb
  rw [ea] at hra
  rw [eb] at hrb
  have hbl : b < w.heap.size := World.block_lt_of_cell? w _ (hc 0 (by decide))
  have k0 := (hc 0 (by decide)).trans (congrArg some c0)
  have k1 := (hc 1 (by decide)).trans (congrArg some c1)
  have k2 := (hc 2 (by decide)).trans (congrArg some c2)
  have k3 := (hc 3 (by decide)).trans (congrArg some c3)
  have k4 := (hc 4 (by decide)).trans (congrArg some c4)
  have k5 := (hd 0 (by decide)).trans (congrArg some d0)
  have k6 := (hd 1 (by decide)).trans (congrArg some d1)
  have k7 := (hd 2 (by decide)).trans (congrArg some d2)
  have k8 := (hd 3 (by decide)).trans (congrArg some d3)
  have k9 := (hd 4 (by decide)).trans (congrArg some d4)
  simp only [Nat.zero_add, Nat.zero_mul, Nat.add_zero, Nat.one_mul, Nat.reduceAdd] at k0 k1 k2 k3 k4 k5 k6 k7 k8 k9
  have IA := Lib.hid (fun w' (hw : Ext w w') => ia w' _ sl (Rd.ext hw hra) (hs.ext hw))
  have IB := Lib.hid (fun w' (hw : Ext w w') => ib w' _ sl (Rd.ext hw hrb) (hs.ext hw))
  have HF := Lib.hid (find_some op hi)
  clear hc hd c0 c1 c2 c3 c4 d0 d1 d2 d3 d4 ea eb hra hrb hl ia ib hs
  have g1 : b < w.heap.size + 1 := by omega
  have g2 : b < w.heap.size + 1 + 1 := by omega
  simp only [endE] at IA IB ⊢
  obtain ⟨x1, x2⟩ := x
  go_enter Tryz.func90, Tryz.ntmps90
  go_wp2_with (first
    | (go_at_call 137; (with_reducible refine (HF.out _).mono ?_); rintro e w1 ⟨rfl, hb⟩; obtain ⟨hc, hf⟩ := hb.cells; have hz := hb.size; simp at hz; have z1 : w.heap.size < w1.heap.size := (by omega); have z2 : b < w1.heap.size := (by omega))
    | (go_at_call 90; (with_reducible refine (IA.out _ (by with_reducible repeat (first | exact Ext.refl _ | assumption | apply Ext.drewN | apply Ext.drew | apply Ext.alloc | (refine Ext.setCell ?_ (by simp <;> omega) _) | (refine Ext.trans ?_ (by assumption))))).mono ?_); rintro e w2 ⟨rfl, hb2⟩; obtain ⟨hc2, hf2⟩ := hb2.cells; have hz2 := hb2.size; simp at hz2; have z3 : w.heap.size < w1.heap.size + 1 := (by omega); have z4 : b < w1.heap.size + 1 := (by omega); have z5 : w.heap.size < w2.heap.size := (by omega); have z6 : b < w2.heap.size := (by omega); have z7 : w1.heap.size < w2.heap.size := (by omega); have z8 : w.heap.size < w2.heap.size + 1 := (by omega); have z9 : b < w2.heap.size + 1 := (by omega); have z10 : w1.heap.size < w2.heap.size + 1 := (by omega)))
  refine Rr.wp_regionG [11] [(0, .y), (1, .y), (2, .y), (3, .y), (4, .y), (5, .y), (6, .y), (7, .z), (8, .y), (9, .y), (10, .y), (11, .y), (12, .m)] (fun _ => (.cells #[.int .i64 0, .int .i64 0] 30, Rg.ptr)) (fun c _ => c = [{ v := .iface 159 (.agg #[.int .i64 f]), recovered := false }]) ?_ (fun _ c a d v w h => by have h' : _ ∧ _ := h; exact ⟨(Rr.put_defers a d v).symm.trans h'.1, h'.2⟩) (by kernel_rfl) (by kernel_rfl) ?_
  · rintro c a' w' hd hx rfl
    exact ⟨hd, rfl, (by with_reducible repeat (first | exact Ext.refl _ | assumption | apply Ext.drewN | apply Ext.drew | apply Ext.alloc | (refine Ext.setCell ?_ (by simp <;> omega) _) | (refine Ext.trans ?_ (by assumption))))⟩
  repeat
    (refine Rr.wr_y (by rfl) (by rfl) ?_
     apply Exists.intro
     refine ⟨fun wz hw _ => ?_, ?_⟩
     · obtain ⟨hcz, hfz⟩ := hw.cells
       go_simp
       exact Rg.up_value
     simp only [Act.put, List.setIfInBounds_toArray, List.set_cons_zero, List.set_cons_succ])
  refine Rr.wr_z (fun _ _ => False) (by rfl) (by rfl) (fun _ _ _ h _ => h) ?_ ?_
  · intro wz hw _
    obtain ⟨hcz, hfz⟩ := hw.cells
    go_simp
    apply Rr.upR_panic
    (with_reducible refine (IB.out _ (by with_reducible repeat (first | exact Ext.refl _ | assumption | apply Ext.drewN | apply Ext.drew | apply Ext.alloc | (refine Ext.setCell ?_ (by simp <;> omega) _) | (refine Ext.trans ?_ (by assumption))))).mono ?_)
    rintro e w3 ⟨rfl, hb3⟩
    exact ⟨_, rfl, hb3, rfl⟩
  · intro u
    refine Rr.wr_dead (fun a fs hd w' _ hh => ?_) _ _ _ _ ⟨_, List.mem_cons_self, fun _ h => h⟩ ?_
    · obtain ⟨g, hg, hno⟩ := hd
      exact absurd (hh g hg) (hno _)
    · intro x hx
      simp only [List.mem_cons, List.not_mem_nil, or_false] at hx
      rcases hx with rfl | rfl | rfl | rfl | rfl
      · exact ⟨_, rfl, .inl rfl⟩
      · exact ⟨_, rfl, .inl rfl⟩
      · exact ⟨_, rfl, .inl rfl⟩
      · exact ⟨_, rfl, .inl rfl⟩
      · exact ⟨_, rfl, .inr ⟨rfl, fun a => ⟨rfl, fun w => by go_simp⟩⟩⟩
end Go.Proofs.YteomcpplajeidaaGreat
