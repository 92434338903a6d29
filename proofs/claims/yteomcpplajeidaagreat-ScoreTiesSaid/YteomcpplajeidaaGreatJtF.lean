/-
  Lemmas of this claim (JtF). Nothing is asked.
-/
import Derived.Test.YteomcpplajeidaaGreatJtE
import Derived.Test.YteomcpplajeidaaGreatJtC
namespace Go.Proofs.YteomcpplajeidaaGreat
set_option linter.unusedVariables false
set_option linter.unusedSimpArgs false
set_option maxRecDepth 100000
open Go.RowKit
theorem mk143 (d : Option Tmp) (t : TypeId) (p : String) (af : Array Edge) : Rg.Makes Tryz.prog { dst := d, op := .alloc 140, type := t, pos := p, after := af, guard := none } (.cells #[.bool false, .int .u64 0, .int .u64 0] 140) :=
  ⟨rfl, fun a w => by go_simp⟩
def cmpI (a b : Int × Int) : Int :=
  if (rightB a.1 a.2 && rightB b.1 b.2) = true then
    (if decide (a.1 < 0) = decide (b.1 < 0) then (if a.1 < 0 then -cmpZ (sizeZ a.1 * sizeZ b.2) (sizeZ b.1 * sizeZ a.2) else cmpZ (sizeZ a.1 * sizeZ b.2) (sizeZ b.1 * sizeZ a.2))
    else cmpZ a.1 b.1)
  else 0
theorem cmpZ_bd (a b : Int) : -1 ≤ cmpZ a b ∧ cmpZ a b ≤ 1 := by unfold cmpZ; split <;> (try split) <;> omega
set_option maxHeartbeats 1000000 in
theorem Cmp_no (a1 a2 b1 b2 : Int) (ha : I2 (a1, a2)) (hb : I2 (b1, b2)) (hr : (rightB a1 a2 && rightB b1 b2) = false) (w : World) :
    Calls Tryz.prog 44 #[.agg #[.int .i64 a1, .int .i64 a2], .agg #[.int .i64 b1, .int .i64 b2]] w fun e w' => e = .returned (.int .i64 0) ∧ Ext w w' := by
  have Hr := Lib.hid hr; clear hr
  obtain ⟨h1, h2, h3, h4⟩ := ha
  obtain ⟨h5, h6, h7, h8⟩ := hb
  go_enter Tryz.func44, Tryz.ntmps44
  go_wp2_with (go_at_call 70; refine (both_any a1 a2 b1 b2 h1 h2 h4 h5 h6 h8 _).mono ?_; rintro e w1 ⟨rfl, hb⟩; rw [Hr.out])
  go_ret
  exact ⟨rfl, (by with_reducible repeat (first | exact Ext.refl _ | assumption | apply Ext.drewN | apply Ext.drew | apply Ext.alloc | (refine Ext.setCell ?_ (by simp <;> omega) _) | (refine Ext.trans ?_ (by assumption))))⟩
set_option maxRecDepth 100000 in
set_option maxHeartbeats 2000000 in
theorem Cmp_yes (a1 a2 b1 b2 : Int) (ha : I2 (a1, a2)) (hb : I2 (b1, b2)) (hr : (rightB a1 a2 && rightB b1 b2) = true) (hS : SumOk (sizeZ a1) (sizeZ a2) (sizeZ b1) (sizeZ b2)) (k : Int)
    (hk : (¬ decide (a1 < 0) = decide (b1 < 0) ∧ k = cmpZ a1 b1) ∨ (decide (a1 < 0) = decide (b1 < 0) ∧ k = cmpZ (sizeZ a1 * sizeZ b2) (sizeZ b1 * sizeZ a2) ∧ decide (a1 < 0) = false) ∨ (decide (a1 < 0) = decide (b1 < 0) ∧ k = -cmpZ (sizeZ a1 * sizeZ b2) (sizeZ b1 * sizeZ a2) ∧ decide (a1 < 0) = true)) (w : World) :
    Calls Tryz.prog 44 #[.agg #[.int .i64 a1, .int .i64 a2], .agg #[.int .i64 b1, .int .i64 b2]] w fun e w' => e = .returned (.int .i64 k) ∧ Ext w w' := by
  have Hr := Lib.hid hr; clear hr
  obtain ⟨h1, h2, h3, h4⟩ := ha
  obtain ⟨h5, h6, h7, h8⟩ := hb
  obtain ⟨⟨s1, s2⟩, ⟨s3, s4⟩, ⟨s5, s6⟩, ⟨s7, s8⟩⟩ := hS
  have HO1 := Lib.hid (of_any a1 a2 h1 h2 h3 h4); have HO2 := Lib.hid (of_any b1 b2 h5 h6 h7 h8)
  have l1 := mul_le_of s1 s2 (show 0 ≤ sizeZ b2 by omega) s8
  have l2 := mul_le_of s3 s4 (show 0 ≤ sizeZ a2 by omega) s6
  have w1 : Wide (sizeZ a1 * sizeZ b2) := ⟨l1.1, by omega⟩
  have w2 : Wide (sizeZ b1 * sizeZ a2) := ⟨l2.1, by omega⟩
  have HP := Lib.hid (product_w (sizeZ a1) (sizeZ b2) s1 (by omega) (by omega) (by omega))
  have HQ := Lib.hid (product_w (sizeZ b1) (sizeZ a2) s3 (by omega) (by omega) (by omega))
  have HC := Lib.hid (compare_any _ _ w1 w2)
  have HK := Lib.hid hk; clear hk
  have cb := cmpZ_bd (sizeZ a1 * sizeZ b2) (sizeZ b1 * sizeZ a2)
  clear l1 l2 w1 w2
  generalize hx : decide (a1 < 0) = x at *
  generalize hy : decide (b1 < 0) = y at *
  have Hx := Lib.hid hx; have Hy := Lib.hid hy; clear hx hy
  go_enter Tryz.func44, Tryz.ntmps44
  go_wp2_with (go_at_call 70; refine (both_any a1 a2 b1 b2 h1 h2 h4 h5 h6 h8 _).mono ?_; rintro e w1 ⟨rfl, hb⟩; rw [Hr.out]; obtain ⟨hc, hf⟩ := hb.cells; have hz := hb.size; simp at hz; have z1 : w.heap.size + 1 < w1.heap.size := (by omega); have z2 : w.heap.size < w1.heap.size := (by omega))
  refine Rg.wp_region 4 6 (fun i => if i = 4 then some (.cells #[.bool false, .int .u64 0, .int .u64 0] 140) else if i = 5 then some (.cells #[.bool false, .int .u64 0, .int .u64 0] 140) else none) (fun i hi => by rw [if_neg (by omega)]; rw [if_neg (by omega)]) (by kernel_rfl) (by kernel_rfl) ?_
  simp only [List.take_succ_cons, List.take_zero, List.drop_succ_cons, List.drop_zero]
  repeat
    (refine Rg.wk_step (by rfl) ?_
     apply Exists.intro
     refine ⟨fun wz hw => ?_, ?_⟩
     · obtain ⟨hc, hf⟩ := hw.cells
       go_simp
       first
         | exact Rg.up_value
         | (apply Rg.up_enter; (with_reducible refine (HO1.out _).mono ?_); rintro e w1 ⟨rfl, hb1⟩; exact ⟨rfl, hb1⟩)
         | (apply Rg.up_enter; (with_reducible refine (HO2.out _).mono ?_); rintro e w1 ⟨rfl, hb1⟩; exact ⟨rfl, hb1⟩)
     simp only [Act.put, List.setIfInBounds_toArray, List.set_cons_zero, List.set_cons_succ])
  refine Rg.wk_nil (Rg.fin2 rfl rfl rfl (mk143 _ _ _ _) rfl rfl (mk143 _ _ _ _) (by simp) ?_)
  intro p q wx hx hpq hp hq ep eq
  obtain ⟨cp, fp, lp⟩ := Rg.cells_of ep
  obtain ⟨cq, fq, lq⟩ := Rg.cells_of eq
  obtain ⟨hcx, hfx⟩ := hx.cells
  have hqp : ¬ q = p := fun e => hpq e.symm
  simp only [Act.put, List.setIfInBounds_toArray]
  have v1 : ¬ p = w.heap.size := by omega
  have v2 : ¬ p = w.heap.size + 1 := by omega
  have v3 : ¬ q = w.heap.size := by omega
  have v4 : ¬ q = w.heap.size + 1 := by omega
  rcases HK.out with ⟨hxy, rfl⟩ | ⟨rfl, rfl, rfl⟩ | ⟨rfl, rfl, rfl⟩
  · have hxy' : (x == y) = false := by simpa using hxy
    clear hxy HK
    go_wp2_with (go_at_call 72; refine (Compare_i _ _ _).mono ?_; rintro e w' ⟨rfl, rfl⟩)
    go_ret
    exact ⟨rfl, (by with_reducible repeat (first | exact Ext.refl _ | assumption | apply Ext.drewN | apply Ext.drew | apply Ext.alloc | (refine Ext.setCell ?_ (by simp <;> omega) _) | (refine Ext.trans ?_ (by assumption))))⟩
  · clear HK
    go_wp2_with (fail)
    refine Rg.wp_region 11 11 (fun _ => none) (fun _ _ => rfl) (by kernel_rfl) (by kernel_rfl) ?_
    simp only [List.take_succ_cons, List.take_zero, List.drop_succ_cons, List.drop_zero]
    repeat
      (refine Rg.wk_step (by rfl) ?_
       apply Exists.intro
       refine ⟨fun wz hw => ?_, ?_⟩
       · obtain ⟨hc, hf⟩ := hw.cells
         go_simp
         first
           | exact Rg.up_value
           | (apply Rg.up_enter; (with_reducible refine (HP.out _).mono ?_); rintro e w1 ⟨rfl, hb1⟩; exact ⟨rfl, hb1⟩)
           | (apply Rg.up_enter; (with_reducible refine (HQ.out _).mono ?_); rintro e w1 ⟨rfl, hb1⟩; exact ⟨rfl, hb1⟩)
           | (apply Rg.up_enter; (with_reducible refine (HC.out _).mono ?_); rintro e w1 ⟨rfl, hb1⟩; exact ⟨rfl, hb1⟩)
       simp only [Act.put, List.setIfInBounds_toArray, List.set_cons_zero, List.set_cons_succ])
    refine Rg.wk_nil (Rg.fin0 rfl ?_)
    intro wy hy
    obtain ⟨hcy, hfy⟩ := hy.cells
    go_wp2
    go_ret
    exact ⟨rfl, (by with_reducible repeat (first | exact Ext.refl _ | assumption | apply Ext.drewN | apply Ext.drew | apply Ext.alloc | (refine Ext.setCell ?_ (by simp <;> omega) _) | (refine Ext.trans ?_ (by assumption))))⟩
  · clear HK
    go_wp2_with (fail)
    refine Rg.wp_region 11 11 (fun _ => none) (fun _ _ => rfl) (by kernel_rfl) (by kernel_rfl) ?_
    simp only [List.take_succ_cons, List.take_zero, List.drop_succ_cons, List.drop_zero]
    repeat
      (refine Rg.wk_step (by rfl) ?_
       apply Exists.intro
       refine ⟨fun wz hw => ?_, ?_⟩
       · obtain ⟨hc, hf⟩ := hw.cells
         go_simp
         first
           | exact Rg.up_value
           | (apply Rg.up_enter; (with_reducible refine (HP.out _).mono ?_); rintro e w1 ⟨rfl, hb1⟩; exact ⟨rfl, hb1⟩)
           | (apply Rg.up_enter; (with_reducible refine (HQ.out _).mono ?_); rintro e w1 ⟨rfl, hb1⟩; exact ⟨rfl, hb1⟩)
           | (apply Rg.up_enter; (with_reducible refine (HC.out _).mono ?_); rintro e w1 ⟨rfl, hb1⟩; exact ⟨rfl, hb1⟩)
       simp only [Act.put, List.setIfInBounds_toArray, List.set_cons_zero, List.set_cons_succ])
    refine Rg.wk_nil (Rg.fin0 rfl ?_)
    intro wy hy
    obtain ⟨hcy, hfy⟩ := hy.cells
    go_wp2
    go_ret
    exact ⟨rfl, (by with_reducible repeat (first | exact Ext.refl _ | assumption | apply Ext.drewN | apply Ext.drew | apply Ext.alloc | (refine Ext.setCell ?_ (by simp <;> omega) _) | (refine Ext.trans ?_ (by assumption))))⟩
theorem Cmp_any (a b : Int × Int) (ha : I2 a) (hb : I2 b) (w : World) :
    Calls Tryz.prog 44 #[rv a, rv b] w fun e w' => e = .returned (.int .i64 (cmpI a b)) ∧ Ext w w' := by
  cases hr : (rightB a.1 a.2 && rightB b.1 b.2)
  · rw [show cmpI a b = 0 from if_neg (by simp [hr])]
    exact Cmp_no a.1 a.2 b.1 b.2 ha hb hr w
  · refine Cmp_yes a.1 a.2 b.1 b.2 ha hb hr (sumOk_of ha hb hr) (cmpI a b) ?_ w
    rw [show cmpI a b = _ from if_pos hr]
    by_cases hxy : decide (a.1 < 0) = decide (b.1 < 0)
    · rw [if_pos hxy]
      by_cases h0 : a.1 < 0
      · rw [if_pos h0]; exact .inr (.inr ⟨hxy, rfl, by simpa using h0⟩)
      · rw [if_neg h0]; exact .inr (.inl ⟨hxy, rfl, by simpa using h0⟩)
    · rw [if_neg hxy]; exact .inl ⟨hxy, rfl⟩
end Go.Proofs.YteomcpplajeidaaGreat
namespace Go.Proofs.YteomcpplajeidaaGreat
set_option linter.unusedVariables false
set_option linter.unusedSimpArgs false
set_option maxRecDepth 100000
open Go.RowKit
def idxFrom (p : Nat → Bool) (n : Nat) : Nat → Int
  | 0 => -1
  | f + 1 => if p (n - (f + 1)) then ((n - (f + 1) : Nat) : Int) else idxFrom p n f
def idxZ (p : Nat → Bool) (n : Nat) : Int := idxFrom p n n
theorem idxFrom_step {p : Nat → Bool} {n k : Nat} (hk : k < n) : idxFrom p n (n - k) = if p k then (k : Int) else idxFrom p n (n - (k + 1)) := by
  rw [show n - k = (n - (k + 1)) + 1 by omega, idxFrom, show n - (n - (k + 1) + 1) = k by omega]
set_option maxRecDepth 100000 in
set_option maxHeartbeats 1000000 in
theorem index96 (b o n c : Nat) (hn : n ≤ 1000000) (f : FuncId) (cap : Array Value) (e : Nat → Nat → Value) (p : Nat → Bool) (w : World)
    (hc0 : ∀ k, k < n → w.cell? ⟨b, o + k * 2, none⟩ = some (e k 0)) (hc1 : ∀ k, k < n → w.cell? ⟨b, o + k * 2 + 1, none⟩ = some (e k 1))
    (hF : ∀ k w', k < n → Ext w w' → Calls Tryz.prog f (#[.agg #[e k 0, e k 1]] ++ cap) w' fun e w'' => e = .returned (.bool (p k)) ∧ Ext w' w'')
    (hE : ∀ args w, (callFunc f args).run Tryz.prog w = .ok (.enter f args) w) :
    Calls Tryz.prog 175 #[.slice (some ⟨b, o, none⟩) n c, .func (.func f) #[] cap] w fun e w' => e = .returned (.int .i64 (idxZ p n)) ∧ Ext w w' := by
  have HF := Lib.hid hF
  have HC0 := Lib.hid hc0; have HC1 := Lib.hid hc1
  clear hF
  clear hc0 hc1
  go_enter Tryz.func175, Tryz.ntmps175
  go_wp2
  go_loopw [8] (fun i wr => ∃ k : Nat, k ≤ n ∧ i = .int .i64 k ∧ idxZ p n = idxFrom p n (n - k) ∧ Ext w wr) (fun i _ => n - (intOf i).toNat)
  case atStart => exact ⟨0, Nat.zero_le _, rfl, rfl, Ext.refl _⟩
  case round =>
    obtain ⟨k, hk, rfl, hi, hx⟩ := hrel
    have Hi := Lib.hid hi; clear hi
    rcases Nat.lt_or_ge k n with hlt | hge
    · have hbl : b < w.heap.size := World.block_lt_of_cell? w _ (HC0.out k hlt)
      have h0 := (hx.cells.1 b (o + k * 2) hbl).trans (HC0.out k hlt)
      have h1 := (hx.cells.1 b (o + k * 2 + 1) hbl).trans (HC1.out k hlt)
      have HFk := Lib.hid (HF.out k wr hlt hx)
      have Hx := Lib.hid hx
      clear hx
      cases hp : p k
      · rw [hp] at HFk
        have Hp := Lib.hid hp; clear hp
        go_wp2_with (with_reducible refine HFk.out.mono ?_; rintro e' w1 ⟨rfl, hb⟩)
        go_roundw
        case rel => exact ⟨k + 1, by omega, by go_num, by rw [Hi.out, idxFrom_step hlt, Hp.out]; rfl, Hx.out.trans hb⟩
        case measure => simp [intOf]; omega
      · rw [hp] at HFk
        have Hp := Lib.hid hp; clear hp
        go_wp2_with (with_reducible refine HFk.out.mono ?_; rintro e' w1 ⟨rfl, hb⟩)
        go_ret
        exact ⟨by rw [Hi.out, idxFrom_step hlt, Hp.out]; rfl, Hx.out.trans hb⟩
    · have hkn : k = n := by omega
      subst hkn
      go_wp2
      go_ret
      exact ⟨by rw [Hi.out, Nat.sub_self]; rfl, hx⟩
set_option maxRecDepth 100000 in
set_option maxHeartbeats 1000000 in
theorem index70 (b o n c : Nat) (hn : n ≤ 1000000) (f : FuncId) (cap : Array Value) (e : Nat → Nat → Value) (p : Nat → Bool) (w : World)
    (hc0 : ∀ k, k < n → w.cell? ⟨b, o + k * 2, none⟩ = some (e k 0)) (hc1 : ∀ k, k < n → w.cell? ⟨b, o + k * 2 + 1, none⟩ = some (e k 1))
    (hF : ∀ k w', k < n → Ext w w' → Calls Tryz.prog f (#[.agg #[e k 0, e k 1]] ++ cap) w' fun e w'' => e = .returned (.bool (p k)) ∧ Ext w' w'')
    (hE : ∀ args w, (callFunc f args).run Tryz.prog w = .ok (.enter f args) w) :
    Calls Tryz.prog 126 #[.slice (some ⟨b, o, none⟩) n c, .func (.func f) #[] cap] w fun e w' => e = .returned (.int .i64 (idxZ p n)) ∧ Ext w w' := by
  have HF := Lib.hid hF
  have HC0 := Lib.hid hc0; have HC1 := Lib.hid hc1
  clear hF
  clear hc0 hc1
  go_enter Tryz.func126, Tryz.ntmps126
  go_wp2
  go_loopw [8] (fun i wr => ∃ k : Nat, k ≤ n ∧ i = .int .i64 k ∧ idxZ p n = idxFrom p n (n - k) ∧ Ext w wr) (fun i _ => n - (intOf i).toNat)
  case atStart => exact ⟨0, Nat.zero_le _, rfl, rfl, Ext.refl _⟩
  case round =>
    obtain ⟨k, hk, rfl, hi, hx⟩ := hrel
    have Hi := Lib.hid hi; clear hi
    rcases Nat.lt_or_ge k n with hlt | hge
    · have hbl : b < w.heap.size := World.block_lt_of_cell? w _ (HC0.out k hlt)
      have h0 := (hx.cells.1 b (o + k * 2) hbl).trans (HC0.out k hlt)
      have h1 := (hx.cells.1 b (o + k * 2 + 1) hbl).trans (HC1.out k hlt)
      have HFk := Lib.hid (HF.out k wr hlt hx)
      have Hx := Lib.hid hx
      clear hx
      cases hp : p k
      · rw [hp] at HFk
        have Hp := Lib.hid hp; clear hp
        go_wp2_with (with_reducible refine HFk.out.mono ?_; rintro e' w1 ⟨rfl, hb⟩)
        go_roundw
        case rel => exact ⟨k + 1, by omega, by go_num, by rw [Hi.out, idxFrom_step hlt, Hp.out]; rfl, Hx.out.trans hb⟩
        case measure => simp [intOf]; omega
      · rw [hp] at HFk
        have Hp := Lib.hid hp; clear hp
        go_wp2_with (with_reducible refine HFk.out.mono ?_; rintro e' w1 ⟨rfl, hb⟩)
        go_ret
        exact ⟨by rw [Hi.out, idxFrom_step hlt, Hp.out]; rfl, Hx.out.trans hb⟩
    · have hkn : k = n := by omega
      subst hkn
      go_wp2
      go_ret
      exact ⟨by rw [Hi.out, Nat.sub_self]; rfl, hx⟩
theorem index70_nil (A : Option Addr) (c : Nat) (f : Value) (w : World) :
    Calls Tryz.prog 126 #[.slice A 0 c, f] w fun e w' => e = .returned (.int .i64 (-1)) ∧ Ext w w' := by
  go_enter Tryz.func126, Tryz.ntmps126
  go_wp2
  refine wp_loop_rounds 1 ?_
  repeat any_goals (rw [rounds_succ]; go_wp2)
  go_ret
  exact ⟨rfl, Ext.refl _⟩
set_option maxRecDepth 100000 in
set_option maxHeartbeats 1000000 in
theorem index59 (b o n c : Nat) (hn : n ≤ 1000000) (f : FuncId) (cap : Array Value) (e : Nat → Nat → Value) (p : Nat → Bool) (w : World)
    (hc0 : ∀ k, k < n → w.cell? ⟨b, o + k * 2, none⟩ = some (e k 0)) (hc1 : ∀ k, k < n → w.cell? ⟨b, o + k * 2 + 1, none⟩ = some (e k 1))
    (hF : ∀ k w', k < n → Ext w w' → Calls Tryz.prog f (#[.agg #[e k 0, e k 1]] ++ cap) w' fun e w'' => e = .returned (.bool (p k)) ∧ Ext w' w'')
    (hE : ∀ args w, (callFunc f args).run Tryz.prog w = .ok (.enter f args) w) :
    Calls Tryz.prog 48 #[.slice (some ⟨b, o, none⟩) n c, .func (.func f) #[] cap] w fun e w' => e = .returned (.int .i64 (idxZ p n)) ∧ Ext w w' := by
  have HF := Lib.hid hF
  have HC0 := Lib.hid hc0; have HC1 := Lib.hid hc1
  clear hF
  clear hc0 hc1
  go_enter Tryz.func48, Tryz.ntmps48
  go_wp2
  go_loopw [8] (fun i wr => ∃ k : Nat, k ≤ n ∧ i = .int .i64 k ∧ idxZ p n = idxFrom p n (n - k) ∧ Ext w wr) (fun i _ => n - (intOf i).toNat)
  case atStart => exact ⟨0, Nat.zero_le _, rfl, rfl, Ext.refl _⟩
  case round =>
    obtain ⟨k, hk, rfl, hi, hx⟩ := hrel
    have Hi := Lib.hid hi; clear hi
    rcases Nat.lt_or_ge k n with hlt | hge
    · have hbl : b < w.heap.size := World.block_lt_of_cell? w _ (HC0.out k hlt)
      have h0 := (hx.cells.1 b (o + k * 2) hbl).trans (HC0.out k hlt)
      have h1 := (hx.cells.1 b (o + k * 2 + 1) hbl).trans (HC1.out k hlt)
      have HFk := Lib.hid (HF.out k wr hlt hx)
      have Hx := Lib.hid hx
      clear hx
      cases hp : p k
      · rw [hp] at HFk
        have Hp := Lib.hid hp; clear hp
        go_wp2_with (with_reducible refine HFk.out.mono ?_; rintro e' w1 ⟨rfl, hb⟩)
        go_roundw
        case rel => exact ⟨k + 1, by omega, by go_num, by rw [Hi.out, idxFrom_step hlt, Hp.out]; rfl, Hx.out.trans hb⟩
        case measure => simp [intOf]; omega
      · rw [hp] at HFk
        have Hp := Lib.hid hp; clear hp
        go_wp2_with (with_reducible refine HFk.out.mono ?_; rintro e' w1 ⟨rfl, hb⟩)
        go_ret
        exact ⟨by rw [Hi.out, idxFrom_step hlt, Hp.out]; rfl, Hx.out.trans hb⟩
    · have hkn : k = n := by omega
      subst hkn
      go_wp2
      go_ret
      exact ⟨by rw [Hi.out, Nat.sub_self]; rfl, hx⟩
theorem index59_nil (A : Option Addr) (c : Nat) (f : Value) (w : World) :
    Calls Tryz.prog 48 #[.slice A 0 c, f] w fun e w' => e = .returned (.int .i64 (-1)) ∧ Ext w w' := by
  go_enter Tryz.func48, Tryz.ntmps48
  go_wp2
  refine wp_loop_rounds 1 ?_
  repeat any_goals (rw [rounds_succ]; go_wp2)
  go_ret
  exact ⟨rfl, Ext.refl _⟩
set_option maxRecDepth 100000 in
set_option maxHeartbeats 1000000 in
theorem index86 (b o n c : Nat) (hn : n ≤ 1000000) (f : FuncId) (cap : Array Value) (e : Nat → Nat → Value) (p : Nat → Bool) (w : World)
    (hc0 : ∀ k, k < n → w.cell? ⟨b, o + k * 5, none⟩ = some (e k 0)) (hc1 : ∀ k, k < n → w.cell? ⟨b, o + k * 5 + 1, none⟩ = some (e k 1)) (hc2 : ∀ k, k < n → w.cell? ⟨b, o + k * 5 + 2, none⟩ = some (e k 2)) (hc3 : ∀ k, k < n → w.cell? ⟨b, o + k * 5 + 3, none⟩ = some (e k 3)) (hc4 : ∀ k, k < n → w.cell? ⟨b, o + k * 5 + 4, none⟩ = some (e k 4))
    (hF : ∀ k w', k < n → Ext w w' → Calls Tryz.prog f (#[.agg #[e k 0, e k 1, e k 2, e k 3, e k 4]] ++ cap) w' fun e w'' => e = .returned (.bool (p k)) ∧ Ext w' w'')
    (hE : ∀ args w, (callFunc f args).run Tryz.prog w = .ok (.enter f args) w) :
    Calls Tryz.prog 76 #[.slice (some ⟨b, o, none⟩) n c, .func (.func f) #[] cap] w fun e w' => e = .returned (.int .i64 (idxZ p n)) ∧ Ext w w' := by
  have HF := Lib.hid hF
  have HC0 := Lib.hid hc0; have HC1 := Lib.hid hc1; have HC2 := Lib.hid hc2; have HC3 := Lib.hid hc3; have HC4 := Lib.hid hc4
  clear hF
  clear hc0 hc1 hc2 hc3 hc4
  go_enter Tryz.func76, Tryz.ntmps76
  go_wp2
  go_loopw [8] (fun i wr => ∃ k : Nat, k ≤ n ∧ i = .int .i64 k ∧ idxZ p n = idxFrom p n (n - k) ∧ Ext w wr) (fun i _ => n - (intOf i).toNat)
  case atStart => exact ⟨0, Nat.zero_le _, rfl, rfl, Ext.refl _⟩
  case round =>
    obtain ⟨k, hk, rfl, hi, hx⟩ := hrel
    have Hi := Lib.hid hi; clear hi
    rcases Nat.lt_or_ge k n with hlt | hge
    · have hbl : b < w.heap.size := World.block_lt_of_cell? w _ (HC0.out k hlt)
      have h0 := (hx.cells.1 b (o + k * 5) hbl).trans (HC0.out k hlt)
      have h1 := (hx.cells.1 b (o + k * 5 + 1) hbl).trans (HC1.out k hlt)
      have h2 := (hx.cells.1 b (o + k * 5 + 2) hbl).trans (HC2.out k hlt)
      have h3 := (hx.cells.1 b (o + k * 5 + 3) hbl).trans (HC3.out k hlt)
      have h4 := (hx.cells.1 b (o + k * 5 + 4) hbl).trans (HC4.out k hlt)
      have HFk := Lib.hid (HF.out k wr hlt hx)
      have Hx := Lib.hid hx
      clear hx
      cases hp : p k
      · rw [hp] at HFk
        have Hp := Lib.hid hp; clear hp
        go_wp2_with (with_reducible refine HFk.out.mono ?_; rintro e' w1 ⟨rfl, hb⟩)
        go_roundw
        case rel => exact ⟨k + 1, by omega, by go_num, by rw [Hi.out, idxFrom_step hlt, Hp.out]; rfl, Hx.out.trans hb⟩
        case measure => simp [intOf]; omega
      · rw [hp] at HFk
        have Hp := Lib.hid hp; clear hp
        go_wp2_with (with_reducible refine HFk.out.mono ?_; rintro e' w1 ⟨rfl, hb⟩)
        go_ret
        exact ⟨by rw [Hi.out, idxFrom_step hlt, Hp.out]; rfl, Hx.out.trans hb⟩
    · have hkn : k = n := by omega
      subst hkn
      go_wp2
      go_ret
      exact ⟨by rw [Hi.out, Nat.sub_self]; rfl, hx⟩
theorem index86_nil (A : Option Addr) (c : Nat) (f : Value) (w : World) :
    Calls Tryz.prog 76 #[.slice A 0 c, f] w fun e w' => e = .returned (.int .i64 (-1)) ∧ Ext w w' := by
  go_enter Tryz.func76, Tryz.ntmps76
  go_wp2
  refine wp_loop_rounds 1 ?_
  repeat any_goals (rw [rounds_succ]; go_wp2)
  go_ret
  exact ⟨rfl, Ext.refl _⟩
end Go.Proofs.YteomcpplajeidaaGreat
