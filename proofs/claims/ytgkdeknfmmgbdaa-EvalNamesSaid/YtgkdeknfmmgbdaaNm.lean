/-
  EvalNames, walked. Conditions: the arguments read as lists of ints.
-/
import Derived.Test.YtgkdeknfmmgbdaaNmP
namespace Go.Proofs.Ytgkdeknfmmgbdaa
set_option linter.unusedVariables false
set_option linter.unusedSimpArgs false
open Go.RowKit

def NmR (vs us : Vals) (n : Int) (W4 : World) (l k : Value) (wr : World) : Prop := ∃ j : Nat, k = .int .i64 j ∧ j ≤ vs.length ∧ PR W4.heap.size wr l (us ++ (vs.take j).map fun x => (x.1, n)) ∧ Ext W4 wr
set_option maxRecDepth 100000 in
set_option maxHeartbeats 4000000 in
theorem names_walk (la lb : List Int) (n : Int) (hn : -9223372036854775808 ≤ n ∧ n ≤ 9223372036854775807) (w : World) (va vb : Value) (ha : IRd w va la) (hb : IRd w vb lb) :
    Calls Try.prog 6 #[va, vb, .int .i64 n] w fun e w' => e = .returned (.bool true) ∧ Ext w w' := by
  obtain ⟨n0, n1⟩ := hn
  have HA := Lib.hid ha
  have HB := Lib.hid hb
  have hsa : ∃ A l c, va = .slice A l c := by obtain ⟨A, cap, h, -⟩ := ha; exact ⟨A, _, cap, h⟩
  have hsb : ∃ A l c, vb = .slice A l c := by obtain ⟨A, cap, h, -⟩ := hb; exact ⟨A, _, cap, h⟩
  clear ha hb
  have HVL := Lib.hid (show (valuesE lb).length ≤ 6 by unfold valuesE; rw [valN_length, List.length_take]; omega)
  have HVN := Lib.hid (show ∀ x ∈ valuesE lb, isName x.1 from valN_names 0 _)
  have HM := Lib.hid (fun w v (h : IRd w v la) => Made_any la w v h)
  have HW := Lib.hid (fun w v (h : IRd w v lb) => Values_any lb w v h)
  obtain ⟨x1, x2, f, hE⟩ : ∃ x1 x2 f, evalI (valuesE lb) (madeE la) = ((x1, x2), f) := ⟨_, _, _, rfl⟩
  have HO := Lib.hid ((evalI_other n (valuesE lb) la).trans hE)
  have HE := Lib.hid hE
  clear hE
  generalize valuesE lb = vs at *
  generalize madeE la = te at *
  obtain ⟨A1, l1, c1, rfl⟩ := hsa
  obtain ⟨A2, l2, c2, rfl⟩ := hsb
  go_enter Try.func6, Try.ntmps6
  go_upto_region 3 with (first
    | (go_at_call 13; (with_reducible refine (sanity_any _).mono ?_); rintro e w1 ⟨rfl, hx1⟩)
    | (go_at_call 14; (with_reducible refine (HM.out _ _ (HA.out.ext (by with_reducible repeat (first | exact Ext.refl _ | assumption | apply Ext.drewN | apply Ext.drew | apply Ext.alloc | (refine Ext.setCell ?_ (by simp <;> omega) _) | (refine Ext.trans ?_ (by assumption)))))).mono ?_); rintro e w2 ⟨u2, rfl, hx2, hr2⟩; obtain ⟨op, m1, m2, nm, base, len, cap, hform⟩ := hr2.form; subst hform; have HR := Lib.hid hr2; clear hr2)
    | (go_at_call 15; (with_reducible refine (HW.out _ _ (HB.out.ext (by with_reducible repeat (first | exact Ext.refl _ | assumption | apply Ext.drewN | apply Ext.drew | apply Ext.alloc | (refine Ext.setCell ?_ (by simp <;> omega) _) | (refine Ext.trans ?_ (by assumption)))))).mono ?_); rintro e w3 ⟨u3, rfl, hx3, hv3, hp3, hz3⟩; have HV := Lib.hid hv3; have HP := Lib.hid hp3; have HZ := Lib.hid hz3; clear hv3 hp3 hz3))
  obtain ⟨b3, c3, hu3⟩ : ∃ b c, u3 = .slice b vs.length c := by obtain ⟨b, c, h, -⟩ := HV.out; exact ⟨b, c, h⟩
  subst hu3
  go_upto_region 4 with (go_at_call 17; (with_reducible refine (eval_ex vs te _ _ _ _ (HR.out.ext (by with_reducible repeat (first | exact Ext.refl _ | assumption | apply Ext.drewN | apply Ext.drew | apply Ext.alloc | (refine Ext.setCell ?_ (by simp <;> omega) _) | (refine Ext.trans ?_ (by assumption))))) (HV.out.ext (by with_reducible repeat (first | exact Ext.refl _ | assumption | apply Ext.drewN | apply Ext.drew | apply Ext.alloc | (refine Ext.setCell ?_ (by simp <;> omega) _) | (refine Ext.trans ?_ (by assumption))))) HE.out).mono ?_); rintro e w4 ⟨rfl, hx4⟩)
  have hT : (w4.alloc (.cells #[.int .i64 x1, .int .i64 x2] 26)).heap[w3.heap.size]? = some (.cells #[.string op, .int .i64 m1, .int .i64 m2, .string nm, .slice base len cap] 29) := by
    have h1 : (w3.alloc (.cells #[.string op, .int .i64 m1, .int .i64 m2, .string nm, .slice base len cap] 29)).heap[w3.heap.size]? = some (.cells #[.string op, .int .i64 m1, .int .i64 m2, .string nm, .slice base len cap] 29) := block_new rfl
    have h2 : Ext (w3.alloc (.cells #[.string op, .int .i64 m1, .int .i64 m2, .string nm, .slice base len cap] 29)) (w4.alloc (.cells #[.int .i64 x1, .int .i64 x2] 26)) := (by with_reducible repeat (first | exact Ext.refl _ | assumption | apply Ext.drewN | apply Ext.drew | apply Ext.alloc | (refine Ext.setCell ?_ (by simp <;> omega) _) | (refine Ext.trans ?_ (by assumption))))
    exact (h2.block _ (Rg.lt_of_heap h1)).trans h1
  have hX : (w4.alloc (.cells #[.int .i64 x1, .int .i64 x2] 26)).heap[w4.heap.size]? = some (.cells #[.int .i64 x1, .int .i64 x2] 26) := block_new rfl
  have hw3 : Ext w3 (w4.alloc (.cells #[.int .i64 x1, .int .i64 x2] 26)) := (by with_reducible repeat (first | exact Ext.refl _ | assumption | apply Ext.drewN | apply Ext.drew | apply Ext.alloc | (refine Ext.setCell ?_ (by simp <;> omega) _) | (refine Ext.trans ?_ (by assumption))))
  have hw2 : Ext w2 (w4.alloc (.cells #[.int .i64 x1, .int .i64 x2] 26)) := (by with_reducible repeat (first | exact Ext.refl _ | assumption | apply Ext.drewN | apply Ext.drew | apply Ext.alloc | (refine Ext.setCell ?_ (by simp <;> omega) _) | (refine Ext.trans ?_ (by assumption))))
  have hw : Ext w (w4.alloc (.cells #[.int .i64 x1, .int .i64 x2] 26)) := (by with_reducible repeat (first | exact Ext.refl _ | assumption | apply Ext.drewN | apply Ext.drew | apply Ext.alloc | (refine Ext.setCell ?_ (by simp <;> omega) _) | (refine Ext.trans ?_ (by assumption))))
  have HR4 := Lib.hid (HR.out.ext hw2)
  have HV4 := Lib.hid (HV.out.ext hw3)
  have HT := Lib.hid hT
  have HX := Lib.hid hX
  clear HR HV HP HA HB HM HW hT hX hw2 hw3
  generalize w4.alloc (.cells #[.int .i64 x1, .int .i64 x2] 26) = W4 at *
  generalize w3.heap.size = pT at *
  generalize w4.heap.size = pX at *
  clear hx1 hx2 hx3 hx4 w1 w2 w3 w4
  go_upto_region 5 with (at_builtin; refine append_vals' rfl (.tmp 32) (.tmp 33) rfl W4.heap.size _ [(otherB, n)] (by rfl) (PR.fresh (by simp) (block_new (by simp))) (by simp) vs _ (by rfl) (HV4.out.ext (by with_reducible repeat (first | exact Ext.refl _ | assumption | apply Ext.drewN | apply Ext.drew | apply Ext.alloc | (refine Ext.setCell ?_ (by simp <;> omega) _) | (refine Ext.trans ?_ (by assumption))))) HZ.out (by simp; have := HVL.out; omega) (by simp) ?_; intro g5 cap5 w5 hF5 hb5)
  have HL5 : Hid (([(otherB, n)] ++ vs).length ≤ 7) := Lib.hid (by have := HVL.out; simp; omega)
  have HF5 := Lib.hid hF5
  have hW5 : Ext W4 w5 := Below.trans ((by with_reducible repeat (first | exact Ext.refl _ | assumption | apply Ext.drewN | apply Ext.drew | apply Ext.alloc | (refine Ext.setCell ?_ (by simp <;> omega) _) | (refine Ext.trans ?_ (by assumption)))) : Ext W4 (W4.alloc (.cells #[.string otherB, .int .i64 n] 51))) hb5
  clear hF5 hb5
  go_upto_region 6 with (at_builtin; refine append_val rfl (.tmp 35) (.tmp 37) rfl W4.heap.size _ ([(otherB, n)] ++ vs) (by rfl) (HF5.out.ext (by with_reducible repeat (first | exact Ext.refl _ | assumption | apply Ext.drewN | apply Ext.drew | apply Ext.alloc | (refine Ext.setCell ?_ (by simp <;> omega) _) | (refine Ext.trans ?_ (by assumption))))) w5.heap.size (otherB, 1) (by rfl) (block_new rfl) (by have := HL5.out; omega) (by have := hW5.size; simp; omega) ?_; intro g6 cap6 w6 hF6 hb6)
  have HF6 := Lib.hid hF6
  have hW6 : Ext W4 w6 := Below.trans (hW5.trans ((by with_reducible repeat (first | exact Ext.refl _ | assumption | apply Ext.drewN | apply Ext.drew | apply Ext.alloc | (refine Ext.setCell ?_ (by simp <;> omega) _) | (refine Ext.trans ?_ (by assumption)))) : Ext w5 (w5.alloc (.cells #[.string otherB, .int .i64 1] 51)))) hb6
  have HL6 : Hid (([(otherB, n)] ++ vs ++ [(otherB, 1)]).length ≤ 8) := Lib.hid (by have := HVL.out; simp; omega)
  have HUS : Hid (otherV n vs = [(otherB, n)] ++ vs ++ [(otherB, 1)] ++ vs.map fun x => (x.1, n)) := Lib.hid (by simp [otherV])
  have hvl : (vs.length : Int) ≤ 6 := by have := HVL.out; omega
  clear hF6 hb6 hW5 HF5
  generalize [(otherB, n)] ++ vs ++ [(otherB, 1)] = us at *
  go_wp2_with (fail)
  go_loopw [12, 41] (fun l k wr => NmR vs us n W4 l k wr) (fun _ k _ => vs.length - (intOf k).toNat)
  case atStart =>
    unfold NmR
    exact ⟨0, by go_num, Nat.zero_le _, by simpa using HF6.out, hW6⟩
  case round =>
    obtain ⟨j, rfl, hj, hF, hx⟩ := hrel
    have HF := Lib.hid hF
    clear hF
    rcases Nat.lt_or_ge j vs.length with hlt | hge
    · obtain ⟨b3', c3', hu3, -, -, hcs⟩ := HV4.out
      injection hu3 with hu3 _ _
      subst hu3
      obtain ⟨bv, rfl, -, hcs⟩ := hcs.resolve_left (by intro e; rw [e] at hlt; simp at hlt)
      have h0 := (hcs j hlt).1
      have h1 := (hcs j hlt).2
      have hbw := World.block_lt_of_cell? _ _ h0
      have h0' := (hx.cells.1 _ _ hbw).trans h0
      have h1' := (hx.cells.1 _ _ hbw).trans h1
      have HS := Lib.hid (show (us ++ (vs.take j).map fun x => (x.1, n)) ++ [(vs[j].1, n)] = us ++ (vs.take (j + 1)).map fun x => (x.1, n) by
        rw [List.take_add_one, List.getElem?_eq_getElem hlt, Option.toList_some, List.map_append, List.append_assoc]; rfl)
      have HL := Lib.hid (show (us ++ (vs.take j).map fun x => (x.1, n)).length ≤ 14 by
        have := HL6.out; have := HVL.out; rw [List.length_append, List.length_map, List.length_take]; omega)
      have hj6 : (j : Int) < 6 := by omega
      have hjl : (j : Int) < (vs.length : Int) := by omega
      generalize us ++ (vs.take j).map (fun x => (x.1, n)) = ls at *
      generalize vs[j] = u at *
      obtain ⟨un, uz⟩ := u
      clear hcs h0 h1 hbw
      go_wp2_with (at_builtin; refine append_val rfl (.tmp 45) (.tmp 50) rfl W4.heap.size _ ls (by rfl) (HF.out.ext (by with_reducible repeat (first | exact Ext.refl _ | assumption | apply Ext.drewN | apply Ext.drew | apply Ext.alloc | (refine Ext.setCell ?_ (by simp <;> omega) _) | (refine Ext.trans ?_ (by assumption))))) (wr.heap.size + 1) (un, n) (by rfl) (block_new (by simp)) (by have := HL.out; omega) (by have := hx.size; simp; omega) ?_; intro g7 cap7 w7 hF7 hb7)
      go_roundw
      case rel =>
        refine ⟨_, _, _, ?_, rfl, rfl, rfl⟩
        unfold NmR
        exact ⟨j + 1, by go_num, by omega, by rw [← HS.out]; exact hF7, Below.trans (hx.trans ((by with_reducible repeat (first | exact Ext.refl _ | assumption | apply Ext.drewN | apply Ext.drew | apply Ext.alloc | (refine Ext.setCell ?_ (by simp <;> omega) _) | (refine Ext.trans ?_ (by assumption)))) : Ext wr ((wr.alloc (.cells #[.string un, .int .i64 uz] 51)).alloc (.cells #[.string un, .int .i64 n] 51)))) hb7⟩
      case measure => simp [intOf]; omega
    · have hjl : ¬ (j : Int) < (vs.length : Int) := by omega
      have ht : vs.take j = vs := List.take_of_length_le (by omega)
      have HF8 := Lib.hid (show PR W4.heap.size wr u12 (otherV n vs) by rw [HUS.out]; have := HF.out; rwa [ht] at this)
      have hvr := HV4.out
      obtain ⟨-, -, -, -, hvr, -⟩ := hvr
      have HVD := Lib.hid (PR.vrd HF8.out (otherV_range ⟨n0, n1⟩ hvr) (by rw [HUS.out, List.length_append, List.length_map]; have := HL6.out; have := HVL.out; omega))
      obtain ⟨b8, c8, hu8⟩ : ∃ b c, u12 = .slice b (otherV n vs).length c := by obtain ⟨b, c, h, -⟩ := HVD.out; exact ⟨b, c, h⟩
      subst hu8
      have HMI := Lib.hid (evalI_miss n vs HVN.out)
      have hTr := (hx.block _ (Rg.lt_of_heap HT.out)).trans HT.out
      obtain ⟨d0, d1, d2, d3, d4, df, dl⟩ := row5 hTr
      have hXr := (hx.block _ (Rg.lt_of_heap HX.out)).trans HX.out
      obtain ⟨xc, xf, xl⟩ := Rg.cells_of hXr
      have e0 := xc 0
      have e1 := xc 1
      have f0 := xf 0
      have HRr := Lib.hid (HR4.out.ext hx)
      have hxw := hw.trans hx
      clear xc xf hTr hXr HF HF8 hvr HUS HL6 HL5 HV4 HVL HR4 HT HX hx hw hW6 HF6 HE
      generalize otherV n vs = us' at *
      go_upto_region 12 with (go_at_call 17; (with_reducible refine (eval_ex us' te _ _ _ _ (HRr.out.ext (by with_reducible repeat (first | exact Ext.refl _ | assumption | apply Ext.drewN | apply Ext.drew | apply Ext.alloc | (refine Ext.setCell ?_ (by simp <;> omega) _) | (refine Ext.trans ?_ (by assumption))))) (HVD.out.ext (by with_reducible repeat (first | exact Ext.refl _ | assumption | apply Ext.drewN | apply Ext.drew | apply Ext.alloc | (refine Ext.setCell ?_ (by simp <;> omega) _) | (refine Ext.trans ?_ (by assumption))))) HO.out).mono ?_); rintro e w8 ⟨rfl, hx8⟩)
      have hx9 : Ext wr (w8.alloc (.cells #[.int .i64 x1, .int .i64 x2] 26)) := (by with_reducible repeat (first | exact Ext.refl _ | assumption | apply Ext.drewN | apply Ext.drew | apply Ext.alloc | (refine Ext.setCell ?_ (by simp <;> omega) _) | (refine Ext.trans ?_ (by assumption))))
      have g0 : (w8.alloc (.cells #[.int .i64 x1, .int .i64 x2] 26)).cell? ⟨w8.heap.size, 0, none⟩ = some (.int .i64 x1) := by go_simp
      have g1 : (w8.alloc (.cells #[.int .i64 x1, .int .i64 x2] 26)).cell? ⟨w8.heap.size, 1, none⟩ = some (.int .i64 x2) := by go_simp
      have gl : w8.heap.size < (w8.alloc (.cells #[.int .i64 x1, .int .i64 x2] 26)).heap.size := by simp
      have e0' := (hx9.cells.1 pX 0 xl).trans e0
      have e1' := (hx9.cells.1 pX 1 xl).trans e1
      have xl' := Nat.lt_of_lt_of_le xl hx9.size
      have HVD9 := Lib.hid (HVD.out.ext hx9)
      have hxw9 := hxw.trans hx9
      clear hx9 hx8 hxw HVD HRr d0 d1 d2 d3 d4 df dl e0 e1 f0 xl
      generalize w8.alloc (.cells #[.int .i64 x1, .int .i64 x2] 26) = W9 at *
      generalize w8.heap.size = pY at *
      go_upto_region 13 with (first
        | (go_at_call 31; (with_reducible refine (num_any _ _).mono ?_); rintro e wn ⟨rfl, hbn⟩)
        | (go_at_call 30; (with_reducible refine (name_any _ _).mono ?_); rintro e wm ⟨rfl, hbm⟩)
        | (go_at_call 24; (with_reducible refine (op_any All addB (nameE missB) (numE (1, 1)) _ _ _ (rdN _ _) (rd60 1 _) (fun _ _ => trivial)).mono ?_); rintro e wo ⟨vo, rfl, hxo, hro⟩; have HRO := Lib.hid hro; clear hro)
        | (go_at_call 17; (with_reducible refine (eval_ex us' exMiss _ _ _ _ (HRO.out.ext (by with_reducible repeat (first | exact Ext.refl _ | assumption | apply Ext.drewN | apply Ext.drew | apply Ext.alloc | (refine Ext.setCell ?_ (by simp <;> omega) _) | (refine Ext.trans ?_ (by assumption))))) (HVD9.out.ext (by with_reducible repeat (first | exact Ext.refl _ | assumption | apply Ext.drewN | apply Ext.drew | apply Ext.alloc | (refine Ext.setCell ?_ (by simp <;> omega) _) | (refine Ext.trans ?_ (by assumption))))) HMI.out).mono ?_); rintro e wp ⟨rfl, hxp⟩))
      have hx10 : Ext W9 (wp.alloc (.cells #[.int .i64 0, .int .i64 0] 26)) := (by with_reducible repeat (first | exact Ext.refl _ | assumption | apply Ext.drewN | apply Ext.drew | apply Ext.alloc | (refine Ext.setCell ?_ (by simp <;> omega) _) | (refine Ext.trans ?_ (by assumption))))
      have g0' := (hx10.cells.1 pY 0 gl).trans g0
      have g1' := (hx10.cells.1 pY 1 gl).trans g1
      have e0'' := (hx10.cells.1 pX 0 xl').trans e0'
      have e1'' := (hx10.cells.1 pX 1 xl').trans e1'
      have hxw10 := hxw9.trans hx10
      have lY := Nat.lt_of_lt_of_le gl hx10.size
      have lX := Nat.lt_of_lt_of_le xl' hx10.size
      clear HVD9 HRO hxo hxp hbn hbm hx10 g0 g1 e0' e1' hxw9 gl xl'
      generalize wp.alloc (.cells #[.int .i64 0, .int .i64 0] 26) = W10 at *
      go_wp2
      go_ret
      exact ⟨rfl, hxw10⟩
end Go.Proofs.Ytgkdeknfmmgbdaa
