/-
  EvalFits walked. Conditions: the argument's slices read as lists.
-/
import Derived.Test.YtgkdeknfmmgbdaaAdG
import Derived.Test.YtgkdeknfmmgbdaaAdP
import Derived.Deep.CutBlock
namespace Go.Proofs.Ytgkdeknfmmgbdaa
set_option linter.unusedVariables false
set_option linter.unusedSimpArgs false
open Go.RowKit

/-- A load of a whole block, where the operation is wanted. -/
theorem wpList_wanted {ops : Array Oper} {rest : List Oper} {o : Oper} {a : Act} {w : World} {Q : Exit → Act → World → Prop} (hw : Region.wanted o (yielded ops a.tmps) = true) (h : o.wp Try.prog a w (wpList Try.prog ops Q rest) Q) : wpList Try.prog ops Q (o :: rest) a w := by
  unfold wpList
  rw [if_pos hw]
  exact .inl h
theorem wpList_load_w {ops : Array Oper} {rest : List Oper} {o : Oper} {a : Act} {w : World} {Q : Exit → Act → World → Prop} (hw : Region.wanted o (yielded ops a.tmps) = true) (T : TypeId) (x : Operand) (ho : o.op = .load T x)
    (g : Nat) (hx : a.eval x = .pointer (some ⟨g, 0, none⟩)) (t : TypeId) (cs : Array Value) {fr : Nat × Nat} {fs : Array Field} (hg : w.heap[g]? = some (.cells cs t fr)) (hu : Try.prog.underlying T = some (.struct fs)) (hi : (Try.prog.info? T).map (·.size) = some cs.size)
    (h : wpList Try.prog ops Q rest (a.put o.dst (.agg cs)) w) : wpList Try.prog ops Q (o :: rest) a w :=
  wpList_wanted hw (wp_load_row T x ho g hx t cs fr _ hg hu rfl hi h)

theorem vrd_nil (w : World) : VRd All w [] (slV nilS) := ⟨none, 0, rfl, by simp, fun x hx => (by cases hx), .inl rfl⟩
def FitL (p4 p5 B : Nat) (W2 : World) (r : TnR) (lot P : Int) (f : Nat → Int) (cs : List Cr) (k : Value) (wr : World) : Prop :=
  ∃ (j : Nat) (x : Sl), k = .int .i64 j ∧ j ≤ cs.length ∧ wr.heap[p4]? = some (.cells (tenC r) 68) ∧ wr.heap[p5]? = some (.cells (entC 0 lot 0 P x) 70) ∧ wr.ownsRow B 51 2 (slV x) (fitN f 0 (cs.take j)).length ((fitN f 0 (cs.take j)).flatMap cellsP) ∧
    (∀ c ∈ cs.take j, c.low ≤ c.high) ∧ B ≤ wr.heap.size ∧ Ext W2 wr

set_option maxRecDepth 100000 in
set_option maxHeartbeats 4000000 in
theorem fits_walk (ls : List Int) (low high : Int) (cs : List (Int × Int)) (rs : List (Int × Int × Int)) (lot price : Int) (vs : List (Int × Int)) (x0 x1 x2 x3 : Sl) (w : World) (hpr : -9223372036854775808 ≤ price ∧ price ≤ 9223372036854775807)
    (h0 : IRd w (slV x0) ls) (h1 : R2d w (slV x1) cs) (h2 : R3d w (slV x2) rs) (h3 : R2d w (slV x3) vs) :
    Calls Try.prog 12 #[.agg (casC x0 low high x1 x2 lot price x3)] w fun e w' => e = .returned (.bool true) ∧ Ext w w' := by
  obtain ⟨a3, l3, c3⟩ := x3
  obtain rfl : l3 = vs.length := by obtain ⟨_, _, h, -⟩ := h3; injection h
  have hle3 : (vs.length : Int) ≤ 9223372036854775807 := by obtain ⟨_, _, -, h, -⟩ := h3; omega
  have H0 := Lib.hid h0
  have H1 := Lib.hid h1
  have H2 := Lib.hid h2
  have H3 := Lib.hid h3
  have HP := Lib.hid hpr
  clear h0 h1 h2 h3 hpr
  go_enter Try.func12, Try.ntmps12
  go_upto_region 2 with (go_at_call 13; (with_reducible refine (sanity_any _).mono ?_); rintro e w1 ⟨rfl, hx1⟩)
  have hC : (w.alloc (.cells (casC x0 low high x1 x2 lot price (a3, vs.length, c3)) 77)).heap[w.heap.size]? = some (.cells (casC x0 low high x1 x2 lot price (a3, vs.length, c3)) 77) := block_new rfl
  have hCw := (hx1.block _ (Rg.lt_of_heap hC)).trans hC
  have hxw : Ext w w1 := (by with_reducible repeat (first | exact Ext.refl _ | assumption | apply Ext.drewN | apply Ext.drew | apply Ext.alloc | (refine Ext.setCell ?_ (by simp <;> omega) _) | (refine Ext.trans ?_ (by assumption))))
  have HC := Lib.hid hCw
  clear hC hCw hx1
  generalize w.heap.size = pc at *
  have HT := Lib.hid (tender_any ls low high cs rs lot price x0 x1 x2 (a3, vs.length, c3) w1 (H0.out.ext hxw) (H1.out.ext hxw) (H2.out.ext hxw))
  go_upto_region 3 with (first
    | (refine wpList_load_w (by rfl) 77 (.tmp 1) rfl pc (by rfl) 77 _ HC.out Try.underlying77 (by kernel_rfl) ?_)
    | (go_at_call 36; (with_reducible refine HT.out.mono ?_); rintro e w2 ⟨x, y, z, rfl, hx2, hs1, hs2, hs3⟩; have HS1 := Lib.hid hs1; have HS2 := Lib.hid hs2; have HS3 := Lib.hid hs3; clear hs1 hs2 hs3)
    | (refine wpList_store_row (hgd := rfl) 68 (.tmp 4) (.tmp 17) rfl w2.heap.size (by rfl) (tenC (tnv x y z low high)) (by rfl) (tenC (tnv nilS nilS nilS 0 0)) 68 (block_new rfl) (by rfl) (by kernel_rfl) (ten_one _) ?_))
  have hT3 : ((w2.alloc (.cells (tenC (tnv nilS nilS nilS 0 0)) 68)).setRow w2.heap.size (tenC (tnv x y z low high))).heap[w2.heap.size]? = some (.cells (tenC (tnv x y z low high)) 68) :=
    setRow_heap _ _ (tenC (tnv nilS nilS nilS 0 0)) _ 68 _ (block_new rfl)
  have hx3 : Ext w2 ((w2.alloc (.cells (tenC (tnv nilS nilS nilS 0 0)) 68)).setRow w2.heap.size (tenC (tnv x y z low high))) := below_setRow ((by with_reducible repeat (first | exact Ext.refl _ | assumption | apply Ext.drewN | apply Ext.drew | apply Ext.alloc | (refine Ext.setCell ?_ (by simp <;> omega) _) | (refine Ext.trans ?_ (by assumption)))) : Ext w2 (w2.alloc (.cells (tenC (tnv nilS nilS nilS 0 0)) 68))) (Nat.le_refl _) _
  have hs3 : ((w2.alloc (.cells (tenC (tnv nilS nilS nilS 0 0)) 68)).setRow w2.heap.size (tenC (tnv x y z low high))).heap.size = w2.heap.size + 1 := by simp
  have HC2 := Lib.hid ((hx2.block _ (Rg.lt_of_heap HC.out)).trans HC.out)
  have hw2 : Ext w w2 := hxw.trans hx2
  have HRC := Lib.hid (show ∀ c ∈ crN 0 (cs.take 4), (-9223372036854775808 ≤ c.low ∧ c.low ≤ 9223372036854775807) ∧ -9223372036854775808 ≤ c.high ∧ c.high ≤ 9223372036854775807 by
    intro c hc
    obtain ⟨q, hq, h1, h2⟩ := crN_back 0 _ c hc
    obtain ⟨_, _, -, -, hr, -⟩ := H1.out
    have := hr q (List.mem_of_mem_take hq)
    rw [h1, h2]
    exact this)
  have HRF := Lib.hid (show ∀ j, -9223372036854775808 ≤ numF vs price j ∧ numF vs price j ≤ 9223372036854775807 by
    intro j
    unfold numF
    cases hq : vs[j]? with
    | none => exact HP.out
    | some q =>
      obtain ⟨_, _, -, -, hr, -⟩ := H3.out
      exact (hr q (List.mem_of_getElem? hq)).2)
  have HAP := Lib.hid (crN_apart (cs.take 4) (by rw [List.length_take]; omega))
  have HL4 := Lib.hid (show (crN 0 (cs.take 4)).length ≤ 4 by rw [crN_length, List.length_take]; omega)
  have HV2 := Lib.hid (H3.out.ext hw2)
  have HT3 := Lib.hid hT3
  have Hs3 := Lib.hid hs3
  clear HT HC H0 H1 H2 H3 HP hxw hT3 hs3
  change Code.wp _ _ _ _ ((w2.alloc (.cells (tenC (tnv nilS nilS nilS 0 0)) 68)).setRow w2.heap.size (tenC (tnv x y z low high)))
  generalize (w2.alloc (.cells (tenC (tnv nilS nilS nilS 0 0)) 68)).setRow w2.heap.size (tenC (tnv x y z low high)) = W3 at *
  obtain ⟨xa, xl, xc⟩ := x
  obtain ⟨ya, yl, yc⟩ := y
  obtain rfl : xl = (lotN 0 (ls.take 5)).length := HS1.out.len
  obtain rfl : yl = (crN 0 (cs.take 4)).length := HS2.out.len
  have hll : ((lotN 0 (ls.take 5)).length : Int) ≤ 5 := by rw [lotN_length, List.length_take]; omega
  have hcl : ((crN 0 (cs.take 4)).length : Int) ≤ 4 := by have := HL4.out; omega
  generalize lotN 0 (ls.take 5) = lots at *
  generalize crN 0 (cs.take 4) = crits at *
  generalize rqN (rs.take 4) = reqs at *
  obtain ⟨-, -, -, -, -, q5, q6, q7, ql⟩ := ccells ((hx3.block _ (Rg.lt_of_heap HC2.out)).trans HC2.out)
  replace q7 : _ = some (Value.slice a3 vs.length c3) := q7
  have hp4 : w2.heap.size ≤ w2.heap.size := Nat.le_refl _
  generalize hp4e : w2.heap.size = p4 at *
  have Hp4e := Lib.hid hp4e
  clear hp4e
  go_upto_region 4 with (fail)
  have hT5 : (W3.alloc (.cells (entC 0 lot 0 0 nilS) 70)).heap[W3.heap.size]? = some (.cells (entC 0 lot 0 0 nilS) 70) := block_new rfl
  have hx4 : Ext w2 (W3.alloc (.cells (entC 0 lot 0 0 nilS) 70)) := hx3.trans (by with_reducible repeat (first | exact Ext.refl _ | assumption | apply Ext.drewN | apply Ext.drew | apply Ext.alloc | (refine Ext.setCell ?_ (by simp <;> omega) _) | (refine Ext.trans ?_ (by assumption))))
  have hT4 : (W3.alloc (.cells (entC 0 lot 0 0 nilS) 70)).heap[p4]? = some (.cells (tenC (tnv (xa, lots.length, xc) (ya, crits.length, yc) z low high)) 68) := (((by with_reducible repeat (first | exact Ext.refl _ | assumption | apply Ext.drewN | apply Ext.drew | apply Ext.alloc | (refine Ext.setCell ?_ (by simp <;> omega) _) | (refine Ext.trans ?_ (by assumption)))) : Ext W3 (W3.alloc (.cells (entC 0 lot 0 0 nilS) 70))).block _ (Rg.lt_of_heap HT3.out)).trans HT3.out
  have hs4 : (W3.alloc (.cells (entC 0 lot 0 0 nilS) 70)).heap.size = W3.heap.size + 1 := by simp
  change Code.wp _ _ _ _ (W3.alloc (.cells (entC 0 lot 0 0 nilS) 70))
  generalize W3.alloc (.cells (entC 0 lot 0 0 nilS) 70) = W4 at *
  generalize hp5e : W3.heap.size = p5 at *
  have Hp5e := Lib.hid hp5e
  have Hs4 := Lib.hid hs4
  have HT4 := Lib.hid hT4
  have HT5 := Lib.hid hT5
  have hp45 : p4 < p5 := by have := Hs3.out; omega
  clear hp5e hs4 hT4 hT5 HT3 Hs3 hx3 q5 q6 q7 ql
  obtain ⟨d1, -, -, d4, d5, dl⟩ := tcells HT4.out
  replace d1 : _ = some (Value.slice xa lots.length xc) := d1
  obtain ⟨-, -, -, -, -, q5, q6, q7, ql⟩ := ccells ((hx4.block _ (Rg.lt_of_heap HC2.out)).trans HC2.out)
  go_upto_block 0 with (fail)
  go_cut [6, 7, 24] (fun s6 s7 s24 wx => ∃ (m : Int) (th : Bool), s6 = .int .i64 m ∧ s7 = .bool th ∧ Hid (mostAt lots lot = if th then some m else none) ∧ Ext W4 wx)
  case first =>
    go_wp2_with (fail)
    go_loopw [6, 7, 24] (fun s6 s7 k wr => ∃ (j : Nat) (m : Int) (th : Bool), k = .int .i64 j ∧ j ≤ lots.length ∧ s6 = .int .i64 m ∧ s7 = .bool th ∧ Hid (mostAt lots lot = if th then some m else mostAt (lots.drop j) lot) ∧ Ext W4 wr) (fun _ _ k _ => lots.length - (intOf k).toNat)
    case atStart => exact ⟨0, 0, false, by go_num, Nat.zero_le _, by go_num, rfl, Lib.hid rfl, Ext.refl _⟩
    case round =>
      obtain ⟨j, m, th, rfl, hj, rfl, rfl, hM, hx⟩ := hrel
      have r5 := (hx.cells.1 _ _ ql).trans q5
      have rl := Nat.lt_of_lt_of_le ql hx.size
      rcases Nat.lt_or_ge j lots.length with hlt | hge
      · obtain ⟨b, rfl, hcs⟩ := HS1.out.at (hx4.trans hx) j hlt
        have hs0 : wr.cell? ⟨b, j * 2, none⟩ = some (.int .i64 lots[j].1) := hcs 0 _ rfl
        have hs1 : wr.cell? ⟨b, j * 2 + 1, none⟩ = some (.int .i64 lots[j].2) := hcs 1 _ rfl
        have hb := World.block_lt_of_cell? wr _ hs1
        have HD := Lib.hid (most_drop lots lot j hlt)
        have hjl : (j : Int) < (lots.length : Int) := by omega
        generalize lots[j] = u at *
        obtain ⟨u1, u2⟩ := u
        clear hcs
        cases th
        · cases hq : (u1 == lot)
          · have HB := Lib.hid (show mostAt lots lot = if false then some m else mostAt (lots.drop (j + 1)) lot by rw [hM.out]; simp only [Bool.false_eq_true, if_false]; rw [HD.out]; simp only [hq, Bool.false_eq_true, if_false])
            clear hM
            go_wp2
            go_roundw
            case rel => exact ⟨j + 1, m, false, by go_num, by omega, rfl, rfl, HB, (by with_reducible repeat (first | exact Ext.refl _ | assumption | apply Ext.drewN | apply Ext.drew | apply Ext.alloc | (refine Ext.setCell ?_ (by simp <;> omega) _) | (refine Ext.trans ?_ (by assumption))))⟩
            case measure => simp [intOf]; omega
          · have HB := Lib.hid (show mostAt lots lot = if true then some u2 else mostAt (lots.drop (j + 1)) lot by rw [hM.out]; simp only [Bool.false_eq_true, if_false]; rw [HD.out]; simp only [hq, if_true])
            clear hM
            go_wp2
            go_roundw
            case rel => exact ⟨j + 1, u2, true, by go_num, by omega, rfl, rfl, HB, (by with_reducible repeat (first | exact Ext.refl _ | assumption | apply Ext.drewN | apply Ext.drew | apply Ext.alloc | (refine Ext.setCell ?_ (by simp <;> omega) _) | (refine Ext.trans ?_ (by assumption))))⟩
            case measure => simp [intOf]; omega
        · have HB := Lib.hid (show mostAt lots lot = if true then some m else mostAt (lots.drop (j + 1)) lot by rw [hM.out]; simp only [if_true])
          clear hM
          cases hq : (u1 == lot)
          all_goals
            go_wp2
            go_roundw
            case rel => exact ⟨j + 1, m, true, by go_num, by omega, rfl, rfl, HB, (by with_reducible repeat (first | exact Ext.refl _ | assumption | apply Ext.drewN | apply Ext.drew | apply Ext.alloc | (refine Ext.setCell ?_ (by simp <;> omega) _) | (refine Ext.trans ?_ (by assumption))))⟩
            case measure => simp [intOf]; omega
      · have hjl : ¬ (j : Int) < (lots.length : Int) := by omega
        have HB := Lib.hid (show mostAt lots lot = if th then some m else none by rw [hM.out, List.drop_eq_nil_of_le hge, mostAt_nil])
        go_wp2
        go_meet
        case rel => exact ⟨m, th, rfl, rfl, HB, hx⟩
  case rest =>
    obtain ⟨m, th, rfl, rfl, hM, hx⟩ := hcut
    obtain ⟨W5, rfl⟩ : ∃ W5 : World, W5 = wc := ⟨_, rfl⟩
    have hx5 : Ext w2 W5 := hx4.trans hx
    have HT6 := Lib.hid ((hx.block _ (Rg.lt_of_heap HT4.out)).trans HT4.out)
    have HE6 := Lib.hid ((hx.block _ (Rg.lt_of_heap HT5.out)).trans HT5.out)
    have HA := Lib.hid (fun (W : World) (e : Ext w2 W) (bd rc q : Int) (vs : Vals) (sl : Sl) (hv : VRd All W vs (slV sl)) => Admit_any (tnv (xa, lots.length, xc) (ya, crits.length, yc) z low high) bd lot rc q sl lots crits reqs vs W (HS1.out.ext e) (HS2.out.ext e) (HS3.out.ext e) hv)
    have hwx : Ext w W5 := hw2.trans hx5
    clear d1 d4 d5 dl q5 q6 q7 ql
    cases th
    · have HN := Lib.hid (show Calls Try.prog 35 #[.agg (tenC (tnv (xa, lots.length, xc) (ya, crits.length, yc) z low high)), .agg (entC 0 lot 0 0 nilS)] W5 fun e w' => e = .returned (.int .i64 34) ∧ Ext W5 w' by
        have h := HA.out W5 hx5 0 0 0 [] nilS (vrd_nil _)
        rw [admit_none hM.out] at h
        exact h)
      go_wp2_with (first
      | (refine wpList_load_w (by rfl) 68 (.tmp 4) rfl p4 (by rfl) 68 _ HT6.out Try.underlying68 (by kernel_rfl) ?_)
      | (refine wpList_load_w (by rfl) 70 (.tmp 5) rfl p5 (by rfl) 70 _ HE6.out Try.underlying70 (by kernel_rfl) ?_)
      | (go_at_call 35; (with_reducible refine HN.out.mono ?_); rintro e w7 ⟨rfl, hx7⟩))
      go_ret
      exact ⟨rfl, (by with_reducible repeat (first | exact Ext.refl _ | assumption | apply Ext.drewN | apply Ext.drew | apply Ext.alloc | (refine Ext.setCell ?_ (by simp <;> omega) _) | (refine Ext.trans ?_ (by assumption))))⟩
    · have HMS : Hid (mostAt lots lot = some m) := Lib.hid hM.out
      have HAT := Lib.hid (fun (vs : Vals) (q : Int) (rs : List Rq) => admit_at (cs := crits) (rs := rs) (low := low) (high := high) (price := q) (vs := vs) HMS.out)
      obtain ⟨-, -, d3, d4, d5, dl⟩ := tcells HT6.out
      obtain ⟨-, -, -, -, -, -, q6, q7, ql⟩ := ccells ((hx5.block _ (Rg.lt_of_heap HC2.out)).trans HC2.out)
      obtain ⟨e1, e3, e4, el⟩ := ecells HE6.out
      have ef := efree HE6.out
      clear hM
      by_cases hlo : min high m < low
      · have HN := Lib.hid (show Calls Try.prog 35 #[.agg (tenC (tnv (xa, lots.length, xc) (ya, crits.length, yc) z low high)), .agg (entC 0 lot 0 0 nilS)] W5 fun e w' => e = .returned (.int .i64 16) ∧ Ext W5 w' by
          have h := HA.out W5 hx5 0 0 0 [] nilS (vrd_nil _)
          rw [show (tnv (xa, lots.length, xc) (ya, crits.length, yc) z low high).low = low from rfl, show (tnv (xa, lots.length, xc) (ya, crits.length, yc) z low high).high = high from rfl, HAT.out, if_pos (by omega)] at h
          exact h)
        go_wp2_with (first
      | (refine wpList_load_w (by rfl) 68 (.tmp 4) rfl p4 (by rfl) 68 _ HT6.out Try.underlying68 (by kernel_rfl) ?_)
      | (refine wpList_load_w (by rfl) 70 (.tmp 5) rfl p5 (by rfl) 70 _ HE6.out Try.underlying70 (by kernel_rfl) ?_)
      | (go_at_call 35; (with_reducible refine HN.out.mono ?_); rintro e w7 ⟨rfl, hx7⟩))
        go_ret
        exact ⟨rfl, (by with_reducible repeat (first | exact Ext.refl _ | assumption | apply Ext.drewN | apply Ext.drew | apply Ext.alloc | (refine Ext.setCell ?_ (by simp <;> omega) _) | (refine Ext.trans ?_ (by assumption))))⟩
      · obtain ⟨P, hP⟩ : ∃ P, P = min (max price low) (min high m) := ⟨_, rfl⟩
        have hP1 : low ≤ P := by omega
        have hP2 : P ≤ high := by omega
        have hP3 : P ≤ m := by omega
        have HPE := Lib.hid hP
        clear hP
        go_upto_region 17 with (fail)
        rw [← HPE.out]
        have hE7 : (W5.setCell ⟨p5, 3, none⟩ (.int .i64 P)).heap[p5]? = some (.cells (entC 0 lot 0 P nilS) 70) := heap_setCell_same W5 p5 3 _ 70 _ HE6.out
        have hT7 : (W5.setCell ⟨p5, 3, none⟩ (.int .i64 P)).heap[p4]? = some (.cells (tenC (tnv (xa, lots.length, xc) (ya, crits.length, yc) z low high)) 68) := (heap_setCell_other W5 _ _ _ (by show p4 ≠ p5; omega)).trans HT6.out
        have hx7 : Ext w2 (W5.setCell ⟨p5, 3, none⟩ (.int .i64 P)) := hx5.setCell (by show _ ≤ p5; have := Hp4e.out; omega) _
        have HT7 := Lib.hid hT7
        have HE7 := Lib.hid hE7
        clear hT7 hE7 d3 d4 d5 dl q6 q7 ql e1 e3 e4 el ef HT6 HE6 hwx hx5 hx
        generalize W5.setCell ⟨p5, 3, none⟩ (.int .i64 P) = W6 at *
        obtain ⟨-, c2, -, -, -, cl⟩ := tcells HT7.out
        replace c2 : _ = some (Value.slice ya crits.length yc) := c2
        go_wp2_with (fail)
        go_loopw [75] (fun k wr => FitL p4 p5 W6.heap.size w2 (tnv (xa, lots.length, xc) (ya, crits.length, yc) z low high) lot P (numF vs price) crits k wr) (fun k _ => crits.length - (intOf k).toNat)
        case atStart =>
          unfold FitL
          exact ⟨0, nilS, by go_num, Nat.zero_le _, HT7.out, HE7.out, World.ownsRow_nil W6 _ 51 2, fun c hc => (by cases hc), Nat.le_refl _, hx7⟩
        case round =>
          unfold FitL at hrel
          obtain ⟨j, ⟨fa, fl, fc⟩, rfl, hj, hTr, hEr, hF, hok, hB, hx⟩ := hrel
          have HTr := Lib.hid hTr
          have HEr := Lib.hid hEr
          have HF := Lib.hid hF
          have HOK := Lib.hid hok
          have hlt4 := Rg.lt_of_heap hTr
          have hlt5 := Rg.lt_of_heap hEr
          have HTa := Lib.hid (fun (o : Obj) => (show (wr.alloc o).heap[p4]? = some (.cells (tenC (tnv (xa, lots.length, xc) (ya, crits.length, yc) z low high)) 68) from ((Ext.alloc (Ext.refl wr) o).block _ hlt4).trans hTr))
          have HEa := Lib.hid (fun (o : Obj) => (show (wr.alloc o).heap[p5]? = some (.cells (entC 0 lot 0 P (fa, fl, fc)) 70) from ((Ext.alloc (Ext.refl wr) o).block _ hlt5).trans hEr))
          have hlv : (fitN (numF vs price) 0 (crits.take j)).length = j := by rw [fitN_length, List.length_take]; omega
          have HVR := Lib.hid (vrd_row hF (fitN_VR (numF vs price) 0 (crits.take j) (fun c hc => HRC.out c (List.mem_of_mem_take hc)) HRF.out) (by have := HL4.out; omega))
          clear hTr hEr hF hok
          rcases Nat.lt_or_ge j crits.length with hlt | hge
          · obtain ⟨b, rfl, hcs⟩ := HS2.out.at hx j hlt
            have hs0 : wr.cell? ⟨b, j * 5, none⟩ = some (.string crits[j].name) := hcs 0 _ rfl
            have hs1 : wr.cell? ⟨b, j * 5 + 1, none⟩ = some (.int .i64 crits[j].kind) := hcs 1 _ rfl
            have hs2 : wr.cell? ⟨b, j * 5 + 2, none⟩ = some (.int .i64 crits[j].low) := hcs 2 _ rfl
            have hs3 : wr.cell? ⟨b, j * 5 + 3, none⟩ = some (.int .i64 crits[j].high) := hcs 3 _ rfl
            have hs4 : wr.cell? ⟨b, j * 5 + 4, none⟩ = some (.bool crits[j].less) := hcs 4 _ rfl
            have hbl : b < wr.heap.size := World.block_lt_of_cell? wr _ hs1
            have hjl : (j : Int) < (crits.length : Int) := by omega
            have HMEM := Lib.hid (List.getElem_mem hlt)
            have HS := Lib.hid (show fitN (numF vs price) 0 (crits.take (j + 1)) = fitN (numF vs price) 0 (crits.take j) ++ [(crits[j].name, min (max (numF vs price j) crits[j].low) crits[j].high)] by
              rw [List.take_add_one, List.getElem?_eq_getElem hlt, Option.toList_some, fitN_snoc, List.length_take, show 0 + min j crits.length = j by omega])
            have HOS := Lib.hid (show crits.take (j + 1) = crits.take j ++ [crits[j]] by rw [List.take_add_one, List.getElem?_eq_getElem hlt, Option.toList_some])
            have HL := Lib.hid hlv
            generalize fitN (numF vs price) 0 (crits.take j) = st at *
            generalize crits[j] = c at *
            obtain ⟨cn, ck, clo, chi, cle⟩ := c
            clear hcs hlv
            by_cases hbad : chi < clo
            · have HN := Lib.hid (fun (o : Obj) => show Calls Try.prog 35 #[.agg (tenC (tnv (xa, lots.length, xc) (some ⟨b, 0, none⟩, crits.length, yc) z low high)), .agg (entC 0 lot 0 P (fa, fl, fc))] (wr.alloc o) fun e w' => e = .returned (.int .i64 16) ∧ Ext (wr.alloc o) w' by
                have h := HA.out (wr.alloc o) (hx.alloc o) 0 0 P st (fa, fl, fc) (HVR.out.ext ((Ext.refl wr).alloc o))
                rw [HAT.out, if_neg (by omega)] at h
                unfold restE at h
                rw [fit_bad st crits _ HMEM.out hbad, if_pos rfl] at h
                exact h)
              go_wp2_with (first
                | (refine wpList_load_w (by rfl) 68 (.tmp 4) rfl p4 (by rfl) 68 _ (HTa.out _) Try.underlying68 (by kernel_rfl) ?_)
                | (refine wpList_load_w (by rfl) 70 (.tmp 5) rfl p5 (by rfl) 70 _ (HEa.out _) Try.underlying70 (by kernel_rfl) ?_)
                | (go_at_call 35; (with_reducible refine (HN.out _).mono ?_); rintro e w7 ⟨rfl, hx7'⟩))
              go_ret
              exact ⟨rfl, hw2.trans (hx.trans (by with_reducible repeat (first | exact Ext.refl _ | assumption | apply Ext.drewN | apply Ext.drew | apply Ext.alloc | (refine Ext.setCell ?_ (by simp <;> omega) _) | (refine Ext.trans ?_ (by assumption)))))⟩
            · have hj4 : (j : Int) < 4 := by omega
              have hB4 : p4 < W6.heap.size := Rg.lt_of_heap HT7.out
              have hB5 : p5 < W6.heap.size := Rg.lt_of_heap HE7.out
              have HTb := Lib.hid (fun (o o' : Obj) => (show ((wr.alloc o).alloc o').heap[p4]? = _ from ((Ext.alloc (Ext.refl (wr.alloc o)) o').block _ (Rg.lt_of_heap (HTa.out o))).trans (HTa.out o)))
              have HEb := Lib.hid (fun (o o' : Obj) => (show ((wr.alloc o).alloc o').heap[p5]? = _ from ((Ext.alloc (Ext.refl (wr.alloc o)) o').block _ (Rg.lt_of_heap (HEa.out o))).trans (HEa.out o)))
              have HCr := Lib.hid ((hx.block _ (Rg.lt_of_heap HC2.out)).trans HC2.out)
              obtain ⟨-, -, -, -, -, -, q6, q7, ql⟩ := ccells HCr.out
              replace q7 : _ = some (Value.slice a3 vs.length c3) := q7
              obtain ⟨-, -, e4, el⟩ := ecells HEr.out
              replace e4 : _ = some (Value.slice fa fl fc) := e4
              have he4 : ¬ p5 = wr.heap.size := by omega
              have hlow : ¬ chi < clo := hbad
              by_cases hv : j < vs.length
              · obtain ⟨A, cap, hA, -, -, hc⟩ := HV2.out
                injection hA with hA _ hcap
                subst hA hcap
                obtain ⟨bv, off, rfl, hcc⟩ := hc.resolve_left (by intro e; rw [e] at hv; simp at hv)
                have hc1 := (hcc j hv).2
                have hbw := World.block_lt_of_cell? _ _ hc1
                have hcr1 := (hx.cells.1 _ _ hbw).trans hc1
                have hbr := Nat.lt_of_lt_of_le hbw hx.size
                have HNF := Lib.hid (show numF vs price j = vs[j].2 by unfold numF; rw [List.getElem?_eq_getElem hv])
                have hvl : (j : Int) < (vs.length : Int) := by omega
                generalize vs[j].2 = zn at *
                rw [HNF.out] at HS
                clear hc hcc hc1
                go_wp2_with (at_builtin; refine append_one one_val 31 51 24 Try.underlying31 info51 rfl (by decide) (by decide) rfl (.tmp 106) (.tmp 117) rfl W6.heap.size (.slice fa fl fc) st (by rfl) (row_ext HF.out (by with_reducible repeat (first | exact Ext.refl _ | assumption | apply Ext.drewN | apply Ext.drew | apply Ext.alloc | (refine Ext.setCell ?_ (by simp <;> omega) _) | (refine Ext.trans ?_ (by assumption))))) (wr.heap.size + 1) (cn, min (max (zn) clo) chi) (by rfl) (block_new (by simp)) (by have := HL.out; omega) (by simp; omega) ?_; intro g9 cap9 w9 hF9 hb9; have HF9 := Lib.hid hF9; clear hF9; have HT9 := Lib.hid ((hb9.block p4 hB4).trans (HTb.out _ _)); have HE9 := Lib.hid ((hb9.block p5 hB5).trans (HEb.out _ _)); have e9 := (ecells HE9.out).2.2.1; have l9 := (ecells HE9.out).2.2.2; have f9 := efree HE9.out 4)
                refine ⟨?_, by simp [intOf]; omega⟩
                unfold FitL
                refine ⟨j + 1, (some ⟨g9, 0, none⟩, st.length + 1, cap9), by go_num, by omega, (heap_setCell_other w9 _ _ _ (by show p4 ≠ p5; omega)).trans HT9.out, heap_setCell_same w9 p5 4 _ 70 _ HE9.out, ?_, ?_, ?_, ?_⟩
                · rw [HS.out]
                  exact row_keep HF9.out (fun g hg => heap_setCell_other _ _ _ _ (by show g ≠ p5; omega))
                · rw [HOS.out]
                  intro c hc
                  rcases List.mem_append.1 hc with hc | hc
                  · exact HOK.out c hc
                  · rw [List.mem_singleton.1 hc]; show clo ≤ chi; omega
                · rw [show (w9.setCell ⟨p5, 4, none⟩ (.slice (some ⟨g9, 0, none⟩) (st.length + 1) cap9)).heap.size = w9.heap.size by simp [World.setCell]]; have h9 := hb9.size; simp at h9; omega
                · exact Below.setCell (Below.trans (hx.trans ((by with_reducible repeat (first | exact Ext.refl _ | assumption | apply Ext.drewN | apply Ext.drew | apply Ext.alloc | (refine Ext.setCell ?_ (by simp <;> omega) _) | (refine Ext.trans ?_ (by assumption)))) : Ext wr ((wr.alloc (.cells #[.string cn, .int .i64 ck, .int .i64 clo, .int .i64 chi, .bool cle] 85)).alloc (.cells #[.string cn, .int .i64 (min (max zn clo) chi)] 51)))) (hb9.mono (by have := Hp4e.out; omega))) (by show _ ≤ p5; have := Hp4e.out; omega) _
              · have HNF := Lib.hid (show numF vs price j = price by unfold numF; rw [List.getElem?_eq_none (by omega)])
                have hvl : ¬ (j : Int) < (vs.length : Int) := by omega
                rw [HNF.out] at HS
                go_wp2_with (at_builtin; refine append_one one_val 31 51 24 Try.underlying31 info51 rfl (by decide) (by decide) rfl (.tmp 106) (.tmp 117) rfl W6.heap.size (.slice fa fl fc) st (by rfl) (row_ext HF.out (by with_reducible repeat (first | exact Ext.refl _ | assumption | apply Ext.drewN | apply Ext.drew | apply Ext.alloc | (refine Ext.setCell ?_ (by simp <;> omega) _) | (refine Ext.trans ?_ (by assumption))))) (wr.heap.size + 1) (cn, min (max (price) clo) chi) (by rfl) (block_new (by simp)) (by have := HL.out; omega) (by simp; omega) ?_; intro g9 cap9 w9 hF9 hb9; have HF9 := Lib.hid hF9; clear hF9; have HT9 := Lib.hid ((hb9.block p4 hB4).trans (HTb.out _ _)); have HE9 := Lib.hid ((hb9.block p5 hB5).trans (HEb.out _ _)); have e9 := (ecells HE9.out).2.2.1; have l9 := (ecells HE9.out).2.2.2; have f9 := efree HE9.out 4)
                refine ⟨?_, by simp [intOf]; omega⟩
                unfold FitL
                refine ⟨j + 1, (some ⟨g9, 0, none⟩, st.length + 1, cap9), by go_num, by omega, (heap_setCell_other w9 _ _ _ (by show p4 ≠ p5; omega)).trans HT9.out, heap_setCell_same w9 p5 4 _ 70 _ HE9.out, ?_, ?_, ?_, ?_⟩
                · rw [HS.out]
                  exact row_keep HF9.out (fun g hg => heap_setCell_other _ _ _ _ (by show g ≠ p5; omega))
                · rw [HOS.out]
                  intro c hc
                  rcases List.mem_append.1 hc with hc | hc
                  · exact HOK.out c hc
                  · rw [List.mem_singleton.1 hc]; show clo ≤ chi; omega
                · rw [show (w9.setCell ⟨p5, 4, none⟩ (.slice (some ⟨g9, 0, none⟩) (st.length + 1) cap9)).heap.size = w9.heap.size by simp [World.setCell]]; have h9 := hb9.size; simp at h9; omega
                · exact Below.setCell (Below.trans (hx.trans ((by with_reducible repeat (first | exact Ext.refl _ | assumption | apply Ext.drewN | apply Ext.drew | apply Ext.alloc | (refine Ext.setCell ?_ (by simp <;> omega) _) | (refine Ext.trans ?_ (by assumption)))) : Ext wr ((wr.alloc (.cells #[.string cn, .int .i64 ck, .int .i64 clo, .int .i64 chi, .bool cle] 85)).alloc (.cells #[.string cn, .int .i64 (min (max price clo) chi)] 51)))) (hb9.mono (by have := Hp4e.out; omega))) (by show _ ≤ p5; have := Hp4e.out; omega) _
          · have hjl : ¬ (j : Int) < (crits.length : Int) := by omega
            have hjt : crits.take j = crits := List.take_of_length_le hge
            rw [hjt] at HF HOK HVR
            have HSR := Lib.hid (fun (W : World) => (show SR cellsRq 3 W (slV nilS) [] from ⟨none, 0, rfl, by simp, .inl rfl⟩))
            have HE0 := Lib.hid (show Calls Try.prog 35 #[.agg (tenC (tnv (xa, lots.length, xc) (ya, crits.length, yc) z low high)), .agg (entC 0 lot 0 P (fa, fl, fc))] wr fun e w' => e = .returned (.int .i64 (reqsE (fitN (numF vs price) 0 crits) reqs)) ∧ Ext wr w' by
              have h := HA.out wr hx 0 0 P _ (fa, fl, fc) HVR.out
              rw [HAT.out, if_neg (by omega)] at h
              unfold restE at h
              rw [fit_ok _ crits HAP.out HOK.out, if_neg (by decide), fit_known, if_neg (by decide)] at h
              exact h)
            have HE1 := Lib.hid (fun (W : World) (e : Ext w2 W) (hv : VRd All W (fitN (numF vs price) 0 crits) (slV (fa, fl, fc))) => (show Calls Try.prog 35 #[.agg (tenC (tnv (xa, lots.length, xc) (ya, crits.length, yc) nilS low high)), .agg (entC 0 lot 0 P (fa, fl, fc))] W fun e w' => e = .returned (.int .i64 0) ∧ Ext W w' by
              have h := Admit_any (tnv (xa, lots.length, xc) (ya, crits.length, yc) nilS low high) 0 lot 0 P (fa, fl, fc) lots crits [] _ W (HS1.out.ext e) (HS2.out.ext e) (HSR.out W) hv
              rw [HAT.out, if_neg (by omega)] at h
              unfold restE at h
              rw [fit_ok _ crits HAP.out HOK.out, if_neg (by decide), fit_known, if_neg (by decide)] at h
              exact h))
            have H4 := Lib.hid (reqsE_four (fitN (numF vs price) 0 crits) reqs)
            generalize reqsE (fitN (numF vs price) 0 crits) reqs = E at *
            go_upto_region 28 with (first
              | (refine wpList_load_w (by rfl) 68 (.tmp 4) rfl p4 (by rfl) 68 _ HTr.out Try.underlying68 (by kernel_rfl) ?_)
              | (refine wpList_load_w (by rfl) 70 (.tmp 5) rfl p5 (by rfl) 70 _ HEr.out Try.underlying70 (by kernel_rfl) ?_)
              | (go_at_call 35; (with_reducible refine HE0.out.mono ?_); rintro e w7 ⟨rfl, hx7'⟩))
            have HT8 := Lib.hid ((hx7'.block _ hlt4).trans HTr.out)
            have HE8 := Lib.hid ((hx7'.block _ hlt5).trans HEr.out)
            obtain ⟨-, -, d3, -, -, dl⟩ := tcells HT8.out
            have df := tfree HT8.out 3
            go_upto_region 29 with (fail)
            have hT9 : (w7.setCell ⟨p4, 3, none⟩ (.slice none 0 0)).heap[p4]? = some (.cells (tenC (tnv (xa, lots.length, xc) (ya, crits.length, yc) nilS low high)) 68) := heap_setCell_same w7 p4 3 _ 68 _ HT8.out
            have hE9 : (w7.setCell ⟨p4, 3, none⟩ (.slice none 0 0)).heap[p5]? = some (.cells (entC 0 lot 0 P (fa, fl, fc)) 70) := (heap_setCell_other w7 _ _ _ (by show p5 ≠ p4; omega)).trans HE8.out
            have hx9 : Ext w2 (w7.setCell ⟨p4, 3, none⟩ (.slice none 0 0)) := (hx.trans hx7').setCell (by show _ ≤ p4; have := Hp4e.out; omega) _
            have HT9 := Lib.hid hT9
            have HE9 := Lib.hid hE9
            have hv9 : VRd All (w7.setCell ⟨p4, 3, none⟩ (.slice none 0 0)) (fitN (numF vs price) 0 crits) (slV (fa, fl, fc)) :=
              vrd_row (row_keep (row_ext HF.out hx7') (fun g hg => heap_setCell_other _ _ _ _ (by have := Rg.lt_of_heap HT7.out; show g ≠ p4; omega))) (fitN_VR (numF vs price) 0 crits HRC.out HRF.out) (by rw [fitN_length]; have := HL4.out; omega)
            have HC9 := Lib.hid (HE1.out _ hx9 hv9)
            clear hT9 hE9 d3 dl df hv9
            generalize w7.setCell ⟨p4, 3, none⟩ (.slice none 0 0) = W9 at *
            rcases H4.out with rfl | rfl | rfl | rfl
            all_goals
              go_wp2_with (first
                | (refine wpList_load_w (by rfl) 68 (.tmp 4) rfl p4 (by rfl) 68 _ HT9.out Try.underlying68 (by kernel_rfl) ?_)
                | (refine wpList_load_w (by rfl) 70 (.tmp 5) rfl p5 (by rfl) 70 _ HE9.out Try.underlying70 (by kernel_rfl) ?_)
                | (go_at_call 35; (with_reducible refine HC9.out.mono ?_); rintro e w8 ⟨rfl, hx8⟩))
              go_ret
              exact ⟨rfl, hw2.trans (hx9.trans hx8)⟩
end Go.Proofs.Ytgkdeknfmmgbdaa
