/-
  EvalSteep walked. Conditions: the arguments read as lists of ints.
-/
import Derived.Test.YtgkdeknfmmgbdaaStQ
import Derived.Test.YtgkdeknfmmgbdaaAdS
import Derived.BigRegion
import Derived.Laws.CopyOwn
namespace Go.Proofs.Ytgkdeknfmmgbdaa
set_option linter.unusedVariables false
set_option linter.unusedSimpArgs false
open Go.RowKit

theorem IRd.cut {w : World} {A : Option Addr} {cap : Nat} {ls : List Int} (h : IRd w (.slice A ls.length cap) ls) (m : Nat) (hm : m ≤ ls.length) : IRd w (.slice A m cap) (ls.take m) := by
  obtain ⟨A', cap', hf, h2, h3, h4⟩ := h
  injection hf with e1 _ e3
  subst e1 e3
  have hl : (ls.take m).length = m := by rw [List.length_take]; omega
  refine ⟨A, cap, by rw [hl], by rw [hl]; omega, fun z hz => h3 z (List.mem_of_mem_take hz), ?_⟩
  rcases h4 with h4 | ⟨b, off, ha, hc⟩
  · exact .inl (by rw [h4]; simp)
  · refine .inr ⟨b, off, ha, fun k hk => ?_⟩
    rw [List.length_take] at hk
    rw [hc k (by omega), List.getElem_take]

theorem vrd_nil0 (w : World) : VRd All w [] (.slice none 0 0) := ⟨none, 0, rfl, by simp, fun x hx => (by cases hx), .inl rfl⟩
abbrev ratC (a b : Int × Int) : Array Value := #[.int .i64 a.1, .int .i64 a.2, .int .i64 b.1, .int .i64 b.2]
def StL (W4 : World) (px py : Nat) (vs0 vs1 : Vals) (te sc : Ex) (k : Value) (wr : World) : Prop :=
  ∃ (j : Nat) (X0 X1 Y0 Y1 : Int × Int), k = .int .i64 j ∧ j ≤ 2 ∧ wr.heap[px]? = some (.cells (ratC X0 X1) 59) ∧ wr.heap[py]? = some (.cells (ratC Y0 Y1) 59) ∧
    (1 ≤ j → evalI vs0 te = (X0, 0) ∧ evalI vs0 sc = (Y0, 0)) ∧ (2 ≤ j → evalI vs1 te = (X1, 0) ∧ evalI vs1 sc = (Y1, 0)) ∧ Ext W4 wr
set_option maxRecDepth 100000 in
set_option maxHeartbeats 4000000 in
theorem steep_walk (la l0 l1 : List Int) (q0 q1 : Int) (hq0 : 0 ≤ q0 ∧ q0 ≤ 255) (hq1 : 0 ≤ q1 ∧ q1 ≤ 255) (A : Option Addr) (cap : Nat) (hcap : la.length ≤ cap) (hcm : cap ≤ 9223372036854775807) (A0 A1 : Option Addr) (c0 c1 : Nat) (w : World)
    (ha : IRd w (.slice A la.length cap) la) (h0 : IRd w (.slice A0 l0.length c0) l0) (h1 : IRd w (.slice A1 l1.length c1) l1) :
    Calls Try.prog 8 #[.slice A la.length cap, .agg #[.slice A0 l0.length c0, .slice A1 l1.length c1], .agg #[.int .u8 q0, .int .u8 q1]] w fun e w' => e = .returned (.bool true) ∧ Ext w w' := by
  obtain ⟨m, hm, hml, hmt⟩ : ∃ m : Nat, min (la.length : Int) 40 = (m : Int) ∧ m ≤ la.length ∧ la.take 40 = la.take m := by
    rcases Nat.lt_or_ge la.length 40 with h | h
    · exact ⟨la.length, by omega, Nat.le_refl _, by rw [List.take_of_length_le (by omega), List.take_of_length_le (by omega)]⟩
    · exact ⟨40, by omega, h, rfl⟩
  obtain ⟨q00, q01⟩ := hq0
  obtain ⟨q10, q11⟩ := hq1
  have HA := Lib.hid (ha.cut m hml)
  have H0 := Lib.hid h0
  have H1 := Lib.hid h1
  have HMA := Lib.hid (fun w v (h : IRd w v (la.take m)) => Made_any (la.take m) w v h)
  have HW0 := Lib.hid (fun w v (h : IRd w v l0) => Values_any l0 w v h)
  have HW1 := Lib.hid (fun w v (h : IRd w v l1) => Values_any l1 w v h)
  have HFO := Lib.hid (madeE_formed (la.take m))
  have HVR0 := Lib.hid (show VR (valuesE l0) by obtain ⟨_, _, -, -, hr, -⟩ := h0; exact valN_range 0 _ (fun z hz => hr z (List.mem_of_mem_take hz)))
  have HVR1 := Lib.hid (show VR (valuesE l1) by obtain ⟨_, _, -, -, hr, -⟩ := h1; exact valN_range 0 _ (fun z hz => hr z (List.mem_of_mem_take hz)))
  have hmc : (m : Int) ≤ (cap : Int) := by omega
  have hm0 : (0 : Int) ≤ (m : Int) := by omega
  have hla : (la.length : Int) ≤ 9223372036854775807 := by omega
  have HTW := Lib.hid (madeE_two (la.take m))
  generalize madeE (la.take m) = te at *
  generalize valuesE l0 = vs0 at *
  generalize valuesE l1 = vs1 at *
  clear ha h0 h1 hmt
  go_enter Try.func8, Try.ntmps8
  go_upto_region 3 with (first
    | (go_at_call 13; (with_reducible refine (sanity_any _).mono ?_); rintro e w1 ⟨rfl, hx1⟩)
    | (go_at_call 14; (with_reducible refine (HMA.out _ _ (HA.out.ext (by with_reducible repeat (first | exact Ext.refl _ | assumption | apply Ext.drewN | apply Ext.drew | apply Ext.alloc | (refine Ext.setCell ?_ (by simp <;> omega) _) | (refine Ext.trans ?_ (by assumption)))))).mono ?_); rintro e w2 ⟨u2, rfl, hx2, hr2⟩; obtain ⟨op, m1, m2, nm, base, len, capt, hform⟩ := hr2.form; subst hform; have HR := Lib.hid hr2; clear hr2))
  have kw0 : IntKind.i64.wrap q0 = q0 := by rw [IntKind.wrap_i64]; omega
  have kw1 : IntKind.i64.wrap q1 = q1 := by rw [IntKind.wrap_i64]; omega
  have kw : IntKind.i64.wrap (1 + q0) = 1 + q0 := by rw [IntKind.wrap_i64]; omega
  have hx0 : Ext ((w.alloc (.cells #[.slice A0 l0.length c0, .slice A1 l1.length c1] 57)).alloc (.cells #[.int .u8 q0, .int .u8 q1] 58)) (w2.alloc (.cells #[.string op, .int .i64 m1, .int .i64 m2, .string nm, .slice base len capt] 29)) := (by with_reducible repeat (first | exact Ext.refl _ | assumption | apply Ext.drewN | apply Ext.drew | apply Ext.alloc | (refine Ext.setCell ?_ (by simp <;> omega) _) | (refine Ext.trans ?_ (by assumption))))
  have hV0 : ((w.alloc (.cells #[.slice A0 l0.length c0, .slice A1 l1.length c1] 57)).alloc (.cells #[.int .u8 q0, .int .u8 q1] 58)).heap[w.heap.size]? = some (.cells #[.slice A0 l0.length c0, .slice A1 l1.length c1] 57) := by
    rw [Below.heap_alloc _ _ _ (by simp)]; exact block_new rfl
  have hQ0 : ((w.alloc (.cells #[.slice A0 l0.length c0, .slice A1 l1.length c1] 57)).alloc (.cells #[.int .u8 q0, .int .u8 q1] 58)).heap[w.heap.size + 1]? = some (.cells #[.int .u8 q0, .int .u8 q1] 58) := block_new (by simp)
  have hV := (hx0.block _ (Rg.lt_of_heap hV0)).trans hV0
  have hQ := (hx0.block _ (Rg.lt_of_heap hQ0)).trans hQ0
  have hT : (w2.alloc (.cells #[.string op, .int .i64 m1, .int .i64 m2, .string nm, .slice base len capt] 29)).heap[w2.heap.size]? = some (.cells #[.string op, .int .i64 m1, .int .i64 m2, .string nm, .slice base len capt] 29) := block_new rfl
  have hxw : Ext w (w2.alloc (.cells #[.string op, .int .i64 m1, .int .i64 m2, .string nm, .slice base len capt] 29)) := (by with_reducible repeat (first | exact Ext.refl _ | assumption | apply Ext.drewN | apply Ext.drew | apply Ext.alloc | (refine Ext.setCell ?_ (by simp <;> omega) _) | (refine Ext.trans ?_ (by assumption))))
  have HR3 := Lib.hid (HR.out.ext ((by with_reducible repeat (first | exact Ext.refl _ | assumption | apply Ext.drewN | apply Ext.drew | apply Ext.alloc | (refine Ext.setCell ?_ (by simp <;> omega) _) | (refine Ext.trans ?_ (by assumption)))) : Ext w2 (w2.alloc (.cells #[.string op, .int .i64 m1, .int .i64 m2, .string nm, .slice base len capt] 29))))
  have HVb := Lib.hid hV
  have HTb := Lib.hid hT
  obtain ⟨qc, -, ql⟩ := Rg.cells_of hQ
  have qc0 := qc 0
  have qc1 := qc 1
  replace qc0 : _ = some (Value.int .u8 q0) := qc0
  replace qc1 : _ = some (Value.int .u8 q1) := qc1
  clear hx0 hV0 hQ0 hV hQ hT qc HR hx1 hx2 HMA HA hm hml hmc hm0 hla hcap hcm
  generalize w2.alloc (.cells #[.string op, .int .i64 m1, .int .i64 m2, .string nm, .slice base len capt] 29) = W3 at *
  generalize w.heap.size + 1 = pq at *
  generalize hpv : w.heap.size = pv at *
  have Hpv := Lib.hid hpv
  clear hpv
  generalize w2.heap.size = pt at *
  refine Rr.wp_region [(0, .y), (1, .y), (2, .y), (3, .y), (5, .y), (7, .y), (8, .y), (9, .y), (4, .y), (6, .z), (10, .y), (11, .z), (12, .m)] (fun _ => (.cells #[.string ⟨#[]⟩, .int .i64 0, .int .i64 0, .string ⟨#[]⟩, .slice none 0 0] 29, Rg.ptr)) (by kernel_rfl) (by kernel_rfl) ?_
  (refine Rr.wr_y (by simp only [List.getElem?_toArray, List.getElem?_cons_succ, List.getElem?_cons_zero]; rfl) (by rfl) ?_
   apply Exists.intro
   refine ⟨fun wz hw _ => ?_, ?_⟩
   · have hcz := hw.cells.1
     go_simp
     (with_reducible exact Rg.up_value)
   simp only [Act.put, List.setIfInBounds_toArray, List.set_cons_zero, List.set_cons_succ])
  (refine Rr.wr_y (by simp only [List.getElem?_toArray, List.getElem?_cons_succ, List.getElem?_cons_zero]; rfl) (by rfl) ?_
   apply Exists.intro
   refine ⟨fun wz hw _ => ?_, ?_⟩
   · have hcz := hw.cells.1
     go_simp
     (with_reducible exact Rg.up_value)
   simp only [Act.put, List.setIfInBounds_toArray, List.set_cons_zero, List.set_cons_succ])
  (refine Rr.wr_y (by simp only [List.getElem?_toArray, List.getElem?_cons_succ, List.getElem?_cons_zero]; rfl) (by rfl) ?_
   apply Exists.intro
   refine ⟨fun wz hw _ => ?_, ?_⟩
   · have hcz := hw.cells.1
     go_simp
     (with_reducible exact Rg.up_value)
   simp only [Act.put, List.setIfInBounds_toArray, List.set_cons_zero, List.set_cons_succ])
  (refine Rr.wr_y (by simp only [List.getElem?_toArray, List.getElem?_cons_succ, List.getElem?_cons_zero]; rfl) (by rfl) ?_
   apply Exists.intro
   refine ⟨fun wz hw _ => ?_, ?_⟩
   · have hcz := hw.cells.1
     go_simp
     (with_reducible exact Rg.up_value)
   simp only [Act.put, List.setIfInBounds_toArray, List.set_cons_zero, List.set_cons_succ])
  (refine Rr.wr_y (by simp only [List.getElem?_toArray, List.getElem?_cons_succ, List.getElem?_cons_zero]; rfl) (by rfl) ?_
   apply Exists.intro
   refine ⟨fun wz hw _ => ?_, ?_⟩
   · have hcz := hw.cells.1
     exact up_row (by rfl) ((hw.block _ (Rg.lt_of_heap HTb.out)).trans HTb.out) Try.underlying29 (by kernel_rfl)
   simp only [Act.put, List.setIfInBounds_toArray, List.set_cons_zero, List.set_cons_succ])
  (refine Rr.wr_y (by simp only [List.getElem?_toArray, List.getElem?_cons_succ, List.getElem?_cons_zero]; rfl) (by rfl) ?_
   apply Exists.intro
   refine ⟨fun wz hw _ => ?_, ?_⟩
   · have hcz := hw.cells.1
     go_simp
     (with_reducible exact Rg.up_value)
   simp only [Act.put, List.setIfInBounds_toArray, List.set_cons_zero, List.set_cons_succ])
  (refine Rr.wr_y (by simp only [List.getElem?_toArray, List.getElem?_cons_succ, List.getElem?_cons_zero]; rfl) (by rfl) ?_
   apply Exists.intro
   refine ⟨fun wz hw _ => ?_, ?_⟩
   · have hcz := hw.cells.1
     go_simp
     (with_reducible exact Rg.up_value)
   simp only [Act.put, List.setIfInBounds_toArray, List.set_cons_zero, List.set_cons_succ])
  (refine Rr.wr_y (by simp only [List.getElem?_toArray, List.getElem?_cons_succ, List.getElem?_cons_zero]; rfl) (by rfl) ?_
   apply Exists.intro
   refine ⟨fun wz hw _ => ?_, ?_⟩
   · have hcz := hw.cells.1
     go_simp
     (with_reducible exact Rg.up_value)
   simp only [Act.put, List.setIfInBounds_toArray, List.set_cons_zero, List.set_cons_succ])
  (refine Rr.wr_y (by simp only [List.getElem?_toArray, List.getElem?_cons_succ, List.getElem?_cons_zero]; rfl) (by rfl) ?_
   apply Exists.intro
   refine ⟨fun wz hw _ => ?_, ?_⟩
   · have hcz := hw.cells.1
     go_simp
     apply Rg.up_enter
     (with_reducible refine (num_any _ _).mono ?_)
     rintro e w3 ⟨rfl, hb3⟩
     exact ⟨rfl, hb3⟩
   simp only [Act.put, List.setIfInBounds_toArray, List.set_cons_zero, List.set_cons_succ])
  refine Rr.wr_z (fun v w' => Rd All w' (opE' mulB (numE (1 + q0, 1)) te) v) (by simp only [List.getElem?_toArray, List.getElem?_cons_succ, List.getElem?_cons_zero]; rfl) (by rfl) (fun v w1 w2 h e => Rd.ext e h) (fun wz hw hh => ?_) (fun u1 => ?_)
  · go_simp
    apply Rr.upR_enter
    (with_reducible refine (op_any All mulB (numE (1 + q0, 1)) te _ _ _ (rd60 (1 + q0) _ (by omega) (by omega)) (HR3.out.ext hw) (fun _ _ => trivial)).mono ?_)
    rintro e w3 ⟨v3, rfl, hx3, hr3⟩
    exact ⟨v3, rfl, hx3, hr3⟩
  simp only [Act.put, List.setIfInBounds_toArray, List.set_cons_zero, List.set_cons_succ]
  (refine Rr.wr_y (by simp only [List.getElem?_toArray, List.getElem?_cons_succ, List.getElem?_cons_zero]; rfl) (by rfl) ?_
   apply Exists.intro
   refine ⟨fun wz hw _ => ?_, ?_⟩
   · have hcz := hw.cells.1
     go_simp
     apply Rg.up_enter
     (with_reducible refine (num_any _ _).mono ?_)
     rintro e w3 ⟨rfl, hb3⟩
     exact ⟨rfl, hb3⟩
   simp only [Act.put, List.setIfInBounds_toArray, List.set_cons_zero, List.set_cons_succ])
  refine Rr.wr_z (fun v w' => Rd All w' (scaledE (1 + q0) q1 te) v) (by simp only [List.getElem?_toArray, List.getElem?_cons_succ, List.getElem?_cons_zero]; rfl) (by rfl) (fun v w1 w2 h e => Rd.ext e h) (fun wz hw hh => ?_) (fun u2 => ?_)
  · go_simp
    apply Rr.upR_enter
    (with_reducible refine (op_any All addB (opE' mulB (numE (1 + q0, 1)) te) (numE (q1, 1)) _ _ _ (holds_hd hh) (rd60 q1 _ (by omega) (by omega)) (fun _ _ => trivial)).mono ?_)
    rintro e w3 ⟨v3, rfl, hx3, hr3⟩
    exact ⟨v3, rfl, hx3, hr3⟩
  simp only [Act.put, List.setIfInBounds_toArray, List.set_cons_zero, List.set_cons_succ]
  refine Rr.wr_m (by simp only [List.getElem?_toArray, List.getElem?_cons_succ, List.getElem?_cons_zero]; rfl) (by rfl) (fun wz => by go_simp) (fun p hp => ?_)
  simp only [Act.put, List.setIfInBounds_toArray, List.set_cons_zero, List.set_cons_succ]
  refine Rr.wr_nil ?_
  intro wy hy hh
  simp only [List.length_cons, List.length_nil, List.drop_succ_cons, List.drop_zero, Nat.reduceAdd]
  obtain ⟨hb1, hb2⟩ := hh _ List.mem_cons_self
  have hrs := hh _ (List.mem_cons_of_mem _ List.mem_cons_self)
  obtain ⟨op', n1', n2', nm', base', len', cap', hform⟩ := Rd.form hrs
  subst hform
  clear hh
  refine wpList_store_row (hgd := rfl) 29 (.tmp 9) (.tmp 39) rfl p (by rfl) #[.string op', .int .i64 n1', .int .i64 n2', .string nm', .slice base' len' cap'] (by rfl) _ 29 hb2 (by rfl) (by kernel_rfl) (by intro v hv; simp at hv; rcases hv with rfl | rfl | rfl | rfl | rfl <;> rfl) ?_
  have hb4 : (wy.setRow p #[.string op', .int .i64 n1', .int .i64 n2', .string nm', .slice base' len' cap']).heap[p]? = some (.cells #[.string op', .int .i64 n1', .int .i64 n2', .string nm', .slice base' len' cap'] 29) := setRow_heap _ _ _ _ _ _ hb2
  have hx4 : Ext W3 (wy.setRow p #[.string op', .int .i64 n1', .int .i64 n2', .string nm', .slice base' len' cap']) := below_setRow hy hb1 _
  have hr4 : Rd All (wy.setRow p #[.string op', .int .i64 n1', .int .i64 n2', .string nm', .slice base' len' cap']) (scaledE (1 + q0) q1 te) (.agg #[.string op', .int .i64 n1', .int .i64 n2', .string nm', .slice base' len' cap']) := by
    refine Rd.past (two_op (two_op (by rfl) HTW.out) (by rfl)) hrs ((Rg.cells_of hb2).1 5) (fun b o h _ => cell_setRow_other _ _ _ _ h)
  have HS4 := Lib.hid hb4
  have HR4 := Lib.hid hr4
  have HR4t := Lib.hid (HR3.out.ext hx4)
  have HV4 := Lib.hid ((hx4.block _ (Rg.lt_of_heap HVb.out)).trans HVb.out)
  have HT4 := Lib.hid ((hx4.block _ (Rg.lt_of_heap HTb.out)).trans HTb.out)
  have hxw4 := hxw.trans hx4
  clear hb4 hr4 hb2 hrs hb1 HR3 HVb HTb qc0 qc1 ql hxw hp kw kw0 kw1
  go_upto_region 4 with (fail)
  generalize wy.setRow p #[.string op', .int .i64 n1', .int .i64 n2', .string nm', .slice base' len' cap'] = W4 at *
  clear hx4 hy wy
  go_upto_region 5 with (fail)
  have hX5 : ((W4.alloc (.cells (ratC (0, 0) (0, 0)) 59)).alloc (.cells (ratC (0, 0) (0, 0)) 59)).heap[W4.heap.size]? = some (.cells (ratC (0, 0) (0, 0)) 59) := by
    rw [Below.heap_alloc _ _ _ (by simp)]; exact block_new rfl
  have hY5 : ((W4.alloc (.cells (ratC (0, 0) (0, 0)) 59)).alloc (.cells (ratC (0, 0) (0, 0)) 59)).heap[W4.heap.size + 1]? = some (.cells (ratC (0, 0) (0, 0)) 59) := block_new (by simp)
  have hx5 : Ext W4 ((W4.alloc (.cells (ratC (0, 0) (0, 0)) 59)).alloc (.cells (ratC (0, 0) (0, 0)) 59)) := (by with_reducible repeat (first | exact Ext.refl _ | assumption | apply Ext.drewN | apply Ext.drew | apply Ext.alloc | (refine Ext.setCell ?_ (by simp <;> omega) _) | (refine Ext.trans ?_ (by assumption))))
  have HX5 := Lib.hid hX5
  have HY5 := Lib.hid hY5
  have hpx : W4.heap.size ≤ W4.heap.size := Nat.le_refl _
  have hpy : W4.heap.size < W4.heap.size + 1 := by omega
  clear hX5 hY5
  change Code.wp _ _ _ _ ((W4.alloc (.cells (ratC (0, 0) (0, 0)) 59)).alloc (.cells (ratC (0, 0) (0, 0)) 59))
  generalize (W4.alloc (.cells (ratC (0, 0) (0, 0)) 59)).alloc (.cells (ratC (0, 0) (0, 0)) 59) = W5 at *
  generalize W4.heap.size + 1 = py at *
  generalize hpxe : W4.heap.size = px at *
  have Hpx := Lib.hid hpxe
  clear hpxe
  go_wp2_with (fail)
  go_loopw [40] (fun k wr => StL W4 px py vs0 vs1 te (scaledE (1 + q0) q1 te) k wr) (fun k _ => 2 - (intOf k).toNat)
  case atStart =>
    unfold StL
    exact ⟨0, (0, 0), (0, 0), (0, 0), (0, 0), by go_num, by omega, HX5.out, HY5.out, fun h => absurd h (by decide), fun h => absurd h (by decide), hx5⟩
  case round =>
    unfold StL at hrel
    obtain ⟨j, X0, X1, Y0, Y1, rfl, hj, hX, hY, ho0, ho1, hx⟩ := hrel
    have HXr := Lib.hid hX
    have HYr := Lib.hid hY
    have HO0 := Lib.hid ho0
    have HO1 := Lib.hid ho1
    clear hX hY ho0 ho1
    rcases (show j = 0 ∨ j = 1 ∨ j = 2 by omega) with rfl | rfl | rfl
    · rw [show ((0 : Nat) : Int) = 0 from rfl]
      generalize hE1 : evalI vs0 te = r1 at *
      generalize hE2 : evalI vs0 (scaledE (1 + q0) q1 te) = r2 at *
      have hst := steep_first vs0 (1 + q0) q1 te HFO.out
      rw [hE1, hE2] at hst
      obtain ⟨⟨a1, a2⟩, f⟩ := r1
      obtain ⟨⟨b1, b2⟩, g⟩ := r2
      have HE1 := Lib.hid hE1
      have HE2 := Lib.hid hE2
      have HST := Lib.hid hst
      clear hE1 hE2 hst
      have HTr := Lib.hid ((hx.block _ (Rg.lt_of_heap HT4.out)).trans HT4.out)
      have HSr := Lib.hid ((hx.block _ (Rg.lt_of_heap HS4.out)).trans HS4.out)
      have HVr := Lib.hid ((hx.block _ (Rg.lt_of_heap HV4.out)).trans HV4.out)
      obtain ⟨vc, -, vl⟩ := Rg.cells_of HVr.out
      have vcj : wr.cell? ⟨pv, 0, none⟩ = some (.slice A0 l0.length c0) := vc 0
      have HIr := Lib.hid (H0.out.ext (hxw4.trans hx))
      clear vc
      go_wp2_with (fail)
      refine Rr.wp_regionE [8] [(0, .y), (1, .y), (2, .y), (3, .y), (4, .z), (5, .y), (6, .y), (7, .y), (8, .y), (9, .m)] (fun _ => (.cells #[.int .i64 0, .int .i64 0] 26, Rg.ptr)) (fun c a d v w h => by have h' : _ ∧ _ := h; exact ⟨(Rr.put_defers a d v).symm.trans h'.1, h'.2⟩) (by kernel_rfl) (by kernel_rfl) ?_
      (refine Rr.wr_y (by simp only [List.getElem?_toArray, List.getElem?_cons_succ, List.getElem?_cons_zero]; rfl) (by rfl) ?_
       apply Exists.intro
       refine ⟨fun wz hw _ => ?_, ?_⟩
       · have hcz := hw.cells.1
         exact up_row (by rfl) ((hw.block _ (Rg.lt_of_heap HTr.out)).trans HTr.out) Try.underlying29 (by kernel_rfl)
       simp only [Act.put, List.setIfInBounds_toArray, List.set_cons_zero, List.set_cons_succ])
      (refine Rr.wr_y (by simp only [List.getElem?_toArray, List.getElem?_cons_succ, List.getElem?_cons_zero]; rfl) (by rfl) ?_
       apply Exists.intro
       refine ⟨fun wz hw _ => ?_, ?_⟩
       · have hcz := hw.cells.1
         go_simp
         (with_reducible exact Rg.up_value)
       simp only [Act.put, List.setIfInBounds_toArray, List.set_cons_zero, List.set_cons_succ])
      (refine Rr.wr_y (by simp only [List.getElem?_toArray, List.getElem?_cons_succ, List.getElem?_cons_zero]; rfl) (by rfl) ?_
       apply Exists.intro
       refine ⟨fun wz hw _ => ?_, ?_⟩
       · have hcz := hw.cells.1
         go_simp
         (with_reducible exact Rg.up_value)
       simp only [Act.put, List.setIfInBounds_toArray, List.set_cons_zero, List.set_cons_succ])
      (refine Rr.wr_y (by simp only [List.getElem?_toArray, List.getElem?_cons_succ, List.getElem?_cons_zero]; rfl) (by rfl) ?_
       apply Exists.intro
       refine ⟨fun wz hw _ => ?_, ?_⟩
       · have hcz := hw.cells.1
         go_simp
         (with_reducible exact Rg.up_value)
       simp only [Act.put, List.setIfInBounds_toArray, List.set_cons_zero, List.set_cons_succ])
      refine Rr.wr_z (fun v w' => VRd All w' vs0 v) (by simp only [List.getElem?_toArray, List.getElem?_cons_succ, List.getElem?_cons_zero]; rfl) (by rfl) (fun v w1 w2 h e => VRd.ext e h) (fun wz hw hh => ?_) (fun u3 => ?_)
      · go_simp
        apply Rr.upR_enter
        (with_reducible refine (HW0.out _ _ (HIr.out.ext hw)).mono ?_)
        rintro e w3 ⟨v3, rfl, hx3, hr3, -⟩
        exact ⟨v3, rfl, hx3, hr3⟩
      simp only [Act.put, List.setIfInBounds_toArray, List.set_cons_zero, List.set_cons_succ]
      refine Rr.wr_y (by simp only [List.getElem?_toArray, List.getElem?_cons_succ, List.getElem?_cons_zero]; rfl) (by rfl) ⟨rev ((a1, a2), f), fun wz hw hh => ?_, ?_⟩
      · go_simp
        apply Rg.up_enter
        (with_reducible refine (eval_ex vs0 te _ _ _ _ (HR4t.out.ext (hx.trans hw)) (holds_hd hh) HE1.out).mono ?_)
        rintro e w3 ⟨rfl, hb3⟩
        exact ⟨rfl, hb3⟩
      simp only [Act.put, List.setIfInBounds_toArray, List.set_cons_zero, List.set_cons_succ]
      (refine Rr.wr_y (by simp only [List.getElem?_toArray, List.getElem?_cons_succ, List.getElem?_cons_zero]; rfl) (by rfl) ?_
       apply Exists.intro
       refine ⟨fun wz hw _ => ?_, ?_⟩
       · have hcz := hw.cells.1
         go_simp
         (with_reducible exact Rg.up_value)
       simp only [Act.put, List.setIfInBounds_toArray, List.set_cons_zero, List.set_cons_succ])
      (refine Rr.wr_y (by simp only [List.getElem?_toArray, List.getElem?_cons_succ, List.getElem?_cons_zero]; rfl) (by rfl) ?_
       apply Exists.intro
       refine ⟨fun wz hw _ => ?_, ?_⟩
       · have hcz := hw.cells.1
         go_simp
         (with_reducible exact Rg.up_value)
       simp only [Act.put, List.setIfInBounds_toArray, List.set_cons_zero, List.set_cons_succ])
      (refine Rr.wr_y (by simp only [List.getElem?_toArray, List.getElem?_cons_succ, List.getElem?_cons_zero]; rfl) (by rfl) ?_
       apply Exists.intro
       refine ⟨fun wz hw _ => ?_, ?_⟩
       · have hcz := hw.cells.1
         go_simp
         (with_reducible exact Rg.up_value)
       simp only [Act.put, List.setIfInBounds_toArray, List.set_cons_zero, List.set_cons_succ])
      refine Rr.wr_m (by simp only [List.getElem?_toArray, List.getElem?_cons_succ, List.getElem?_cons_zero]; rfl) (by rfl) (fun wz => by go_simp) (fun pa hpa => ?_)
      simp only [Act.put, List.setIfInBounds_toArray, List.set_cons_zero, List.set_cons_succ]
      refine Rr.wr_nil ?_
      intro wy hy hh
      simp only [List.length_cons, List.length_nil, List.drop_succ_cons, List.drop_zero, Nat.reduceAdd]
      obtain ⟨hb1, hb2⟩ := hh _ List.mem_cons_self
      clear hh
      refine wpList_store_row (hgd := rfl) 26 (.tmp 13) (.tmp 50) rfl pa (by rfl) #[.int .i64 a1, .int .i64 a2] (by rfl) _ 26 hb2 (by rfl) (by kernel_rfl) (by intro v hv; simp at hv; rcases hv with rfl | rfl <;> rfl) ?_
      have HPa := Lib.hid (setRow_heap wy pa _ #[.int .i64 a1, .int .i64 a2] 26 _ hb2)
      have hxa : Ext wr (wy.setRow pa #[.int .i64 a1, .int .i64 a2]) := below_setRow hy hb1 _
      have hpa1 : wr.heap.size ≤ pa := hb1
      generalize wy.setRow pa #[.int .i64 a1, .int .i64 a2] = Wa at *
      clear hy hb1 hb2 hpa HTr HVr vcj vl HIr
      have HSa := Lib.hid ((hxa.block _ (Rg.lt_of_heap HSr.out)).trans HSr.out)
      have hxa4 := hx.trans hxa
      have HVa := Lib.hid ((hxa4.block _ (Rg.lt_of_heap HV4.out)).trans HV4.out)
      obtain ⟨vc, -, vl⟩ := Rg.cells_of HVa.out
      have vcj : Wa.cell? ⟨pv, 0, none⟩ = some (.slice A0 l0.length c0) := vc 0
      have HIa := Lib.hid (H0.out.ext (hxw4.trans hxa4))
      clear vc
      go_wp2_with (fail)
      refine Rr.wp_regionE [8] [(0, .y), (1, .y), (2, .y), (3, .y), (4, .z), (5, .y), (6, .y), (7, .y), (8, .y), (9, .m)] (fun _ => (.cells #[.int .i64 0, .int .i64 0] 26, Rg.ptr)) (fun c a d v w h => by have h' : _ ∧ _ := h; exact ⟨(Rr.put_defers a d v).symm.trans h'.1, h'.2⟩) (by kernel_rfl) (by kernel_rfl) ?_
      (refine Rr.wr_y (by simp only [List.getElem?_toArray, List.getElem?_cons_succ, List.getElem?_cons_zero]; rfl) (by rfl) ?_
       apply Exists.intro
       refine ⟨fun wz hw _ => ?_, ?_⟩
       · have hcz := hw.cells.1
         exact up_row (by rfl) ((hw.block _ (Rg.lt_of_heap HSa.out)).trans HSa.out) Try.underlying29 (by kernel_rfl)
       simp only [Act.put, List.setIfInBounds_toArray, List.set_cons_zero, List.set_cons_succ])
      (refine Rr.wr_y (by simp only [List.getElem?_toArray, List.getElem?_cons_succ, List.getElem?_cons_zero]; rfl) (by rfl) ?_
       apply Exists.intro
       refine ⟨fun wz hw _ => ?_, ?_⟩
       · have hcz := hw.cells.1
         go_simp
         (with_reducible exact Rg.up_value)
       simp only [Act.put, List.setIfInBounds_toArray, List.set_cons_zero, List.set_cons_succ])
      (refine Rr.wr_y (by simp only [List.getElem?_toArray, List.getElem?_cons_succ, List.getElem?_cons_zero]; rfl) (by rfl) ?_
       apply Exists.intro
       refine ⟨fun wz hw _ => ?_, ?_⟩
       · have hcz := hw.cells.1
         go_simp
         (with_reducible exact Rg.up_value)
       simp only [Act.put, List.setIfInBounds_toArray, List.set_cons_zero, List.set_cons_succ])
      (refine Rr.wr_y (by simp only [List.getElem?_toArray, List.getElem?_cons_succ, List.getElem?_cons_zero]; rfl) (by rfl) ?_
       apply Exists.intro
       refine ⟨fun wz hw _ => ?_, ?_⟩
       · have hcz := hw.cells.1
         go_simp
         (with_reducible exact Rg.up_value)
       simp only [Act.put, List.setIfInBounds_toArray, List.set_cons_zero, List.set_cons_succ])
      refine Rr.wr_z (fun v w' => VRd All w' vs0 v) (by simp only [List.getElem?_toArray, List.getElem?_cons_succ, List.getElem?_cons_zero]; rfl) (by rfl) (fun v w1 w2 h e => VRd.ext e h) (fun wz hw hh => ?_) (fun u4 => ?_)
      · go_simp
        apply Rr.upR_enter
        (with_reducible refine (HW0.out _ _ (HIa.out.ext hw)).mono ?_)
        rintro e w3 ⟨v3, rfl, hx3, hr3, -⟩
        exact ⟨v3, rfl, hx3, hr3⟩
      simp only [Act.put, List.setIfInBounds_toArray, List.set_cons_zero, List.set_cons_succ]
      refine Rr.wr_y (by simp only [List.getElem?_toArray, List.getElem?_cons_succ, List.getElem?_cons_zero]; rfl) (by rfl) ⟨rev ((b1, b2), g), fun wz hw hh => ?_, ?_⟩
      · go_simp
        apply Rg.up_enter
        (with_reducible refine (eval_ex vs0 (scaledE (1 + q0) q1 te) _ _ _ _ (HR4.out.ext (hxa4.trans hw)) (holds_hd hh) HE2.out).mono ?_)
        rintro e w3 ⟨rfl, hb3⟩
        exact ⟨rfl, hb3⟩
      simp only [Act.put, List.setIfInBounds_toArray, List.set_cons_zero, List.set_cons_succ]
      (refine Rr.wr_y (by simp only [List.getElem?_toArray, List.getElem?_cons_succ, List.getElem?_cons_zero]; rfl) (by rfl) ?_
       apply Exists.intro
       refine ⟨fun wz hw _ => ?_, ?_⟩
       · have hcz := hw.cells.1
         go_simp
         (with_reducible exact Rg.up_value)
       simp only [Act.put, List.setIfInBounds_toArray, List.set_cons_zero, List.set_cons_succ])
      (refine Rr.wr_y (by simp only [List.getElem?_toArray, List.getElem?_cons_succ, List.getElem?_cons_zero]; rfl) (by rfl) ?_
       apply Exists.intro
       refine ⟨fun wz hw _ => ?_, ?_⟩
       · have hcz := hw.cells.1
         go_simp
         (with_reducible exact Rg.up_value)
       simp only [Act.put, List.setIfInBounds_toArray, List.set_cons_zero, List.set_cons_succ])
      (refine Rr.wr_y (by simp only [List.getElem?_toArray, List.getElem?_cons_succ, List.getElem?_cons_zero]; rfl) (by rfl) ?_
       apply Exists.intro
       refine ⟨fun wz hw _ => ?_, ?_⟩
       · have hcz := hw.cells.1
         go_simp
         (with_reducible exact Rg.up_value)
       simp only [Act.put, List.setIfInBounds_toArray, List.set_cons_zero, List.set_cons_succ])
      refine Rr.wr_m (by simp only [List.getElem?_toArray, List.getElem?_cons_succ, List.getElem?_cons_zero]; rfl) (by rfl) (fun wz => by go_simp) (fun pb hpb => ?_)
      simp only [Act.put, List.setIfInBounds_toArray, List.set_cons_zero, List.set_cons_succ]
      refine Rr.wr_nil ?_
      intro wy hy hh
      simp only [List.length_cons, List.length_nil, List.drop_succ_cons, List.drop_zero, Nat.reduceAdd]
      obtain ⟨hb1, hb2⟩ := hh _ List.mem_cons_self
      clear hh
      refine wpList_store_row (hgd := rfl) 26 (.tmp 15) (.tmp 59) rfl pb (by rfl) #[.int .i64 b1, .int .i64 b2] (by rfl) _ 26 hb2 (by rfl) (by kernel_rfl) (by intro v hv; simp at hv; rcases hv with rfl | rfl <;> rfl) ?_
      have HPb := Lib.hid (setRow_heap wy pb _ #[.int .i64 b1, .int .i64 b2] 26 _ hb2)
      have hxb : Ext Wa (wy.setRow pb #[.int .i64 b1, .int .i64 b2]) := below_setRow hy hb1 _
      have HPa' := Lib.hid ((hxb.block _ (Rg.lt_of_heap HPa.out)).trans HPa.out)
      have hxrb := hxa.trans hxb
      have HXb := Lib.hid ((hxrb.block _ (Rg.lt_of_heap HXr.out)).trans HXr.out)
      have HYb := Lib.hid ((hxrb.block _ (Rg.lt_of_heap HYr.out)).trans HYr.out)
      have hxb4 := hx.trans hxrb
      have hlx := Rg.lt_of_heap HXr.out
      have hly := Rg.lt_of_heap HYr.out
      have hpb1 : wr.heap.size ≤ pb := Nat.le_trans hxa.size hb1
      generalize wy.setRow pb #[.int .i64 b1, .int .i64 b2] = Wb at *
      clear hy hb1 hb2 hpb HSa HVa vcj vl HIa HSr HPa hxa hxa4 hxb hxrb
      obtain ⟨ac, -, al⟩ := Rg.cells_of HPa'.out
      obtain ⟨bc, -, bl⟩ := Rg.cells_of HPb.out
      obtain ⟨xc, xf, xl⟩ := Rg.cells_of HXb.out
      obtain ⟨yc, yf, yl⟩ := Rg.cells_of HYb.out
      by_cases hf : f = 0
      · by_cases hg : g = 0
        · have d1 : ((f : Int) != 0) = false := by rw [hf]; rfl
          have d2 : ((g : Int) != 0) = false := by rw [hg]; rfl
          have ac0 : Wb.cell? ⟨pa, 0, none⟩ = some (.int .i64 a1) := ac 0
          have ac1 : Wb.cell? ⟨pa, 1, none⟩ = some (.int .i64 a2) := ac 1
          have bc0 : Wb.cell? ⟨pb, 0, none⟩ = some (.int .i64 b1) := bc 0
          have bc1 : Wb.cell? ⟨pb, 1, none⟩ = some (.int .i64 b2) := bc 1
          have xc0 := xc 0
          have xc1 := xc 1
          have yc0 := yc 0
          have yc1 := yc 1
          have xf0 := xf 0
          have xf1 := xf 1
          have yf0 := yf 0
          have yf1 := yf 1
          have Hf := Lib.hid hf
          have Hg := Lib.hid hg
          have hxy : ¬ px = py := by omega
          have n1 : ¬ pa = px := by omega
          have n2 : ¬ px = pa := by omega
          have n3 : ¬ pa = py := by omega
          have n4 : ¬ py = pa := by omega
          have n5 : ¬ pb = px := by omega
          have n6 : ¬ px = pb := by omega
          have n7 : ¬ pb = py := by omega
          have n8 : ¬ py = pb := by omega
          have n9 : ¬ py = px := by omega
          clear hf hg ac bc xc yc xf yf
          go_wp2_with (fail)
          go_region
          go_wp2
          go_roundw
          case rel =>
            unfold StL
            refine ⟨1, (a1, a2), X1, (b1, b2), Y1, by go_num, by omega, ?_, ?_, (fun _ => ⟨by rw [← Hf.out]; exact HE1.out, by rw [← Hg.out]; exact HE2.out⟩), (fun h => absurd h (by decide)), ?_⟩
            · show (((((Wb.setCell ⟨px, 0, none⟩ (.int .i64 a1)).setCell ⟨px, 1, none⟩ (.int .i64 a2)).setCell ⟨py, 0, none⟩ (.int .i64 b1)).setCell ⟨py, 1, none⟩ (.int .i64 b2))).heap[px]? = _
              rw [heap_setCell_other _ _ _ _ (by show px ≠ py; omega), heap_setCell_other _ _ _ _ (by show px ≠ py; omega)]
              exact heap_setCell_same _ px 1 _ 59 _ (heap_setCell_same Wb px 0 _ 59 _ HXb.out)
            · show (((((Wb.setCell ⟨px, 0, none⟩ (.int .i64 a1)).setCell ⟨px, 1, none⟩ (.int .i64 a2)).setCell ⟨py, 0, none⟩ (.int .i64 b1)).setCell ⟨py, 1, none⟩ (.int .i64 b2))).heap[py]? = _
              exact heap_setCell_same _ py 1 _ 59 _ (heap_setCell_same _ py 0 _ 59 _ ((heap_setCell_other _ _ _ _ (by show py ≠ px; omega)).trans ((heap_setCell_other _ _ _ _ (by show py ≠ px; omega)).trans HYb.out)))
            · have hq1 : W4.heap.size ≤ px := by have := Hpx.out; omega
              have hq2 : W4.heap.size ≤ py := by omega
              exact Ext.drew (Ext.setCell (Ext.setCell (Ext.setCell (Ext.setCell hxb4 hq1 _) hq1 _) hq2 _) hq2 _)
          case measure => simp [intOf]
        · have d1 : ((f : Int) != 0) = false := by rw [hf]; rfl
          have d2 : ((g : Int) != 0) = true := by rw [bne_iff_ne]; exact hg
          have d3 : ((f : Int) == 0) = true := by rw [hf]; rfl
          clear hf hg ac bc xc yc xf yf
          go_wp2
          go_ret
          exact ⟨rfl, hxw4.trans hxb4⟩
      · have d1 : ((f : Int) != 0) = true := by rw [bne_iff_ne]; exact hf
        have d3 : ((f : Int) == 0) = false := by rw [beq_eq_false_iff_ne]; exact hf
        by_cases hfg : f = g
        · have d4 : ((f : Int) == g) = true := by rw [beq_iff_eq]; exact hfg
          clear hf hfg ac bc xc yc xf yf
          go_wp2
          go_ret
          exact ⟨rfl, hxw4.trans hxb4⟩
        · have d4 : ((f : Int) == g) = false := by rw [beq_eq_false_iff_ne]; exact hfg
          have d5 : ((g : Int) == 2) = true := by rw [beq_iff_eq]; rcases HST.out with h | h | h <;> first | exact absurd h hf | exact absurd h hfg | exact h
          clear hf hfg ac bc xc yc xf yf
          go_wp2
          go_ret
          exact ⟨rfl, hxw4.trans hxb4⟩
    · rw [show ((1 : Nat) : Int) = 1 from rfl]
      generalize hE1 : evalI vs1 te = r1 at *
      generalize hE2 : evalI vs1 (scaledE (1 + q0) q1 te) = r2 at *
      have hst := steep_first vs1 (1 + q0) q1 te HFO.out
      rw [hE1, hE2] at hst
      obtain ⟨⟨a1, a2⟩, f⟩ := r1
      obtain ⟨⟨b1, b2⟩, g⟩ := r2
      have HE1 := Lib.hid hE1
      have HE2 := Lib.hid hE2
      have HST := Lib.hid hst
      clear hE1 hE2 hst
      have HTr := Lib.hid ((hx.block _ (Rg.lt_of_heap HT4.out)).trans HT4.out)
      have HSr := Lib.hid ((hx.block _ (Rg.lt_of_heap HS4.out)).trans HS4.out)
      have HVr := Lib.hid ((hx.block _ (Rg.lt_of_heap HV4.out)).trans HV4.out)
      obtain ⟨vc, -, vl⟩ := Rg.cells_of HVr.out
      have vcj : wr.cell? ⟨pv, 1, none⟩ = some (.slice A1 l1.length c1) := vc 1
      have HIr := Lib.hid (H1.out.ext (hxw4.trans hx))
      clear vc
      go_wp2_with (fail)
      refine Rr.wp_regionE [8] [(0, .y), (1, .y), (2, .y), (3, .y), (4, .z), (5, .y), (6, .y), (7, .y), (8, .y), (9, .m)] (fun _ => (.cells #[.int .i64 0, .int .i64 0] 26, Rg.ptr)) (fun c a d v w h => by have h' : _ ∧ _ := h; exact ⟨(Rr.put_defers a d v).symm.trans h'.1, h'.2⟩) (by kernel_rfl) (by kernel_rfl) ?_
      (refine Rr.wr_y (by simp only [List.getElem?_toArray, List.getElem?_cons_succ, List.getElem?_cons_zero]; rfl) (by rfl) ?_
       apply Exists.intro
       refine ⟨fun wz hw _ => ?_, ?_⟩
       · have hcz := hw.cells.1
         exact up_row (by rfl) ((hw.block _ (Rg.lt_of_heap HTr.out)).trans HTr.out) Try.underlying29 (by kernel_rfl)
       simp only [Act.put, List.setIfInBounds_toArray, List.set_cons_zero, List.set_cons_succ])
      (refine Rr.wr_y (by simp only [List.getElem?_toArray, List.getElem?_cons_succ, List.getElem?_cons_zero]; rfl) (by rfl) ?_
       apply Exists.intro
       refine ⟨fun wz hw _ => ?_, ?_⟩
       · have hcz := hw.cells.1
         go_simp
         (with_reducible exact Rg.up_value)
       simp only [Act.put, List.setIfInBounds_toArray, List.set_cons_zero, List.set_cons_succ])
      (refine Rr.wr_y (by simp only [List.getElem?_toArray, List.getElem?_cons_succ, List.getElem?_cons_zero]; rfl) (by rfl) ?_
       apply Exists.intro
       refine ⟨fun wz hw _ => ?_, ?_⟩
       · have hcz := hw.cells.1
         go_simp
         (with_reducible exact Rg.up_value)
       simp only [Act.put, List.setIfInBounds_toArray, List.set_cons_zero, List.set_cons_succ])
      (refine Rr.wr_y (by simp only [List.getElem?_toArray, List.getElem?_cons_succ, List.getElem?_cons_zero]; rfl) (by rfl) ?_
       apply Exists.intro
       refine ⟨fun wz hw _ => ?_, ?_⟩
       · have hcz := hw.cells.1
         go_simp
         (with_reducible exact Rg.up_value)
       simp only [Act.put, List.setIfInBounds_toArray, List.set_cons_zero, List.set_cons_succ])
      refine Rr.wr_z (fun v w' => VRd All w' vs1 v) (by simp only [List.getElem?_toArray, List.getElem?_cons_succ, List.getElem?_cons_zero]; rfl) (by rfl) (fun v w1 w2 h e => VRd.ext e h) (fun wz hw hh => ?_) (fun u3 => ?_)
      · go_simp
        apply Rr.upR_enter
        (with_reducible refine (HW1.out _ _ (HIr.out.ext hw)).mono ?_)
        rintro e w3 ⟨v3, rfl, hx3, hr3, -⟩
        exact ⟨v3, rfl, hx3, hr3⟩
      simp only [Act.put, List.setIfInBounds_toArray, List.set_cons_zero, List.set_cons_succ]
      refine Rr.wr_y (by simp only [List.getElem?_toArray, List.getElem?_cons_succ, List.getElem?_cons_zero]; rfl) (by rfl) ⟨rev ((a1, a2), f), fun wz hw hh => ?_, ?_⟩
      · go_simp
        apply Rg.up_enter
        (with_reducible refine (eval_ex vs1 te _ _ _ _ (HR4t.out.ext (hx.trans hw)) (holds_hd hh) HE1.out).mono ?_)
        rintro e w3 ⟨rfl, hb3⟩
        exact ⟨rfl, hb3⟩
      simp only [Act.put, List.setIfInBounds_toArray, List.set_cons_zero, List.set_cons_succ]
      (refine Rr.wr_y (by simp only [List.getElem?_toArray, List.getElem?_cons_succ, List.getElem?_cons_zero]; rfl) (by rfl) ?_
       apply Exists.intro
       refine ⟨fun wz hw _ => ?_, ?_⟩
       · have hcz := hw.cells.1
         go_simp
         (with_reducible exact Rg.up_value)
       simp only [Act.put, List.setIfInBounds_toArray, List.set_cons_zero, List.set_cons_succ])
      (refine Rr.wr_y (by simp only [List.getElem?_toArray, List.getElem?_cons_succ, List.getElem?_cons_zero]; rfl) (by rfl) ?_
       apply Exists.intro
       refine ⟨fun wz hw _ => ?_, ?_⟩
       · have hcz := hw.cells.1
         go_simp
         (with_reducible exact Rg.up_value)
       simp only [Act.put, List.setIfInBounds_toArray, List.set_cons_zero, List.set_cons_succ])
      (refine Rr.wr_y (by simp only [List.getElem?_toArray, List.getElem?_cons_succ, List.getElem?_cons_zero]; rfl) (by rfl) ?_
       apply Exists.intro
       refine ⟨fun wz hw _ => ?_, ?_⟩
       · have hcz := hw.cells.1
         go_simp
         (with_reducible exact Rg.up_value)
       simp only [Act.put, List.setIfInBounds_toArray, List.set_cons_zero, List.set_cons_succ])
      refine Rr.wr_m (by simp only [List.getElem?_toArray, List.getElem?_cons_succ, List.getElem?_cons_zero]; rfl) (by rfl) (fun wz => by go_simp) (fun pa hpa => ?_)
      simp only [Act.put, List.setIfInBounds_toArray, List.set_cons_zero, List.set_cons_succ]
      refine Rr.wr_nil ?_
      intro wy hy hh
      simp only [List.length_cons, List.length_nil, List.drop_succ_cons, List.drop_zero, Nat.reduceAdd]
      obtain ⟨hb1, hb2⟩ := hh _ List.mem_cons_self
      clear hh
      refine wpList_store_row (hgd := rfl) 26 (.tmp 13) (.tmp 50) rfl pa (by rfl) #[.int .i64 a1, .int .i64 a2] (by rfl) _ 26 hb2 (by rfl) (by kernel_rfl) (by intro v hv; simp at hv; rcases hv with rfl | rfl <;> rfl) ?_
      have HPa := Lib.hid (setRow_heap wy pa _ #[.int .i64 a1, .int .i64 a2] 26 _ hb2)
      have hxa : Ext wr (wy.setRow pa #[.int .i64 a1, .int .i64 a2]) := below_setRow hy hb1 _
      have hpa1 : wr.heap.size ≤ pa := hb1
      generalize wy.setRow pa #[.int .i64 a1, .int .i64 a2] = Wa at *
      clear hy hb1 hb2 hpa HTr HVr vcj vl HIr
      have HSa := Lib.hid ((hxa.block _ (Rg.lt_of_heap HSr.out)).trans HSr.out)
      have hxa4 := hx.trans hxa
      have HVa := Lib.hid ((hxa4.block _ (Rg.lt_of_heap HV4.out)).trans HV4.out)
      obtain ⟨vc, -, vl⟩ := Rg.cells_of HVa.out
      have vcj : Wa.cell? ⟨pv, 1, none⟩ = some (.slice A1 l1.length c1) := vc 1
      have HIa := Lib.hid (H1.out.ext (hxw4.trans hxa4))
      clear vc
      go_wp2_with (fail)
      refine Rr.wp_regionE [8] [(0, .y), (1, .y), (2, .y), (3, .y), (4, .z), (5, .y), (6, .y), (7, .y), (8, .y), (9, .m)] (fun _ => (.cells #[.int .i64 0, .int .i64 0] 26, Rg.ptr)) (fun c a d v w h => by have h' : _ ∧ _ := h; exact ⟨(Rr.put_defers a d v).symm.trans h'.1, h'.2⟩) (by kernel_rfl) (by kernel_rfl) ?_
      (refine Rr.wr_y (by simp only [List.getElem?_toArray, List.getElem?_cons_succ, List.getElem?_cons_zero]; rfl) (by rfl) ?_
       apply Exists.intro
       refine ⟨fun wz hw _ => ?_, ?_⟩
       · have hcz := hw.cells.1
         exact up_row (by rfl) ((hw.block _ (Rg.lt_of_heap HSa.out)).trans HSa.out) Try.underlying29 (by kernel_rfl)
       simp only [Act.put, List.setIfInBounds_toArray, List.set_cons_zero, List.set_cons_succ])
      (refine Rr.wr_y (by simp only [List.getElem?_toArray, List.getElem?_cons_succ, List.getElem?_cons_zero]; rfl) (by rfl) ?_
       apply Exists.intro
       refine ⟨fun wz hw _ => ?_, ?_⟩
       · have hcz := hw.cells.1
         go_simp
         (with_reducible exact Rg.up_value)
       simp only [Act.put, List.setIfInBounds_toArray, List.set_cons_zero, List.set_cons_succ])
      (refine Rr.wr_y (by simp only [List.getElem?_toArray, List.getElem?_cons_succ, List.getElem?_cons_zero]; rfl) (by rfl) ?_
       apply Exists.intro
       refine ⟨fun wz hw _ => ?_, ?_⟩
       · have hcz := hw.cells.1
         go_simp
         (with_reducible exact Rg.up_value)
       simp only [Act.put, List.setIfInBounds_toArray, List.set_cons_zero, List.set_cons_succ])
      (refine Rr.wr_y (by simp only [List.getElem?_toArray, List.getElem?_cons_succ, List.getElem?_cons_zero]; rfl) (by rfl) ?_
       apply Exists.intro
       refine ⟨fun wz hw _ => ?_, ?_⟩
       · have hcz := hw.cells.1
         go_simp
         (with_reducible exact Rg.up_value)
       simp only [Act.put, List.setIfInBounds_toArray, List.set_cons_zero, List.set_cons_succ])
      refine Rr.wr_z (fun v w' => VRd All w' vs1 v) (by simp only [List.getElem?_toArray, List.getElem?_cons_succ, List.getElem?_cons_zero]; rfl) (by rfl) (fun v w1 w2 h e => VRd.ext e h) (fun wz hw hh => ?_) (fun u4 => ?_)
      · go_simp
        apply Rr.upR_enter
        (with_reducible refine (HW1.out _ _ (HIa.out.ext hw)).mono ?_)
        rintro e w3 ⟨v3, rfl, hx3, hr3, -⟩
        exact ⟨v3, rfl, hx3, hr3⟩
      simp only [Act.put, List.setIfInBounds_toArray, List.set_cons_zero, List.set_cons_succ]
      refine Rr.wr_y (by simp only [List.getElem?_toArray, List.getElem?_cons_succ, List.getElem?_cons_zero]; rfl) (by rfl) ⟨rev ((b1, b2), g), fun wz hw hh => ?_, ?_⟩
      · go_simp
        apply Rg.up_enter
        (with_reducible refine (eval_ex vs1 (scaledE (1 + q0) q1 te) _ _ _ _ (HR4.out.ext (hxa4.trans hw)) (holds_hd hh) HE2.out).mono ?_)
        rintro e w3 ⟨rfl, hb3⟩
        exact ⟨rfl, hb3⟩
      simp only [Act.put, List.setIfInBounds_toArray, List.set_cons_zero, List.set_cons_succ]
      (refine Rr.wr_y (by simp only [List.getElem?_toArray, List.getElem?_cons_succ, List.getElem?_cons_zero]; rfl) (by rfl) ?_
       apply Exists.intro
       refine ⟨fun wz hw _ => ?_, ?_⟩
       · have hcz := hw.cells.1
         go_simp
         (with_reducible exact Rg.up_value)
       simp only [Act.put, List.setIfInBounds_toArray, List.set_cons_zero, List.set_cons_succ])
      (refine Rr.wr_y (by simp only [List.getElem?_toArray, List.getElem?_cons_succ, List.getElem?_cons_zero]; rfl) (by rfl) ?_
       apply Exists.intro
       refine ⟨fun wz hw _ => ?_, ?_⟩
       · have hcz := hw.cells.1
         go_simp
         (with_reducible exact Rg.up_value)
       simp only [Act.put, List.setIfInBounds_toArray, List.set_cons_zero, List.set_cons_succ])
      (refine Rr.wr_y (by simp only [List.getElem?_toArray, List.getElem?_cons_succ, List.getElem?_cons_zero]; rfl) (by rfl) ?_
       apply Exists.intro
       refine ⟨fun wz hw _ => ?_, ?_⟩
       · have hcz := hw.cells.1
         go_simp
         (with_reducible exact Rg.up_value)
       simp only [Act.put, List.setIfInBounds_toArray, List.set_cons_zero, List.set_cons_succ])
      refine Rr.wr_m (by simp only [List.getElem?_toArray, List.getElem?_cons_succ, List.getElem?_cons_zero]; rfl) (by rfl) (fun wz => by go_simp) (fun pb hpb => ?_)
      simp only [Act.put, List.setIfInBounds_toArray, List.set_cons_zero, List.set_cons_succ]
      refine Rr.wr_nil ?_
      intro wy hy hh
      simp only [List.length_cons, List.length_nil, List.drop_succ_cons, List.drop_zero, Nat.reduceAdd]
      obtain ⟨hb1, hb2⟩ := hh _ List.mem_cons_self
      clear hh
      refine wpList_store_row (hgd := rfl) 26 (.tmp 15) (.tmp 59) rfl pb (by rfl) #[.int .i64 b1, .int .i64 b2] (by rfl) _ 26 hb2 (by rfl) (by kernel_rfl) (by intro v hv; simp at hv; rcases hv with rfl | rfl <;> rfl) ?_
      have HPb := Lib.hid (setRow_heap wy pb _ #[.int .i64 b1, .int .i64 b2] 26 _ hb2)
      have hxb : Ext Wa (wy.setRow pb #[.int .i64 b1, .int .i64 b2]) := below_setRow hy hb1 _
      have HPa' := Lib.hid ((hxb.block _ (Rg.lt_of_heap HPa.out)).trans HPa.out)
      have hxrb := hxa.trans hxb
      have HXb := Lib.hid ((hxrb.block _ (Rg.lt_of_heap HXr.out)).trans HXr.out)
      have HYb := Lib.hid ((hxrb.block _ (Rg.lt_of_heap HYr.out)).trans HYr.out)
      have hxb4 := hx.trans hxrb
      have hlx := Rg.lt_of_heap HXr.out
      have hly := Rg.lt_of_heap HYr.out
      have hpb1 : wr.heap.size ≤ pb := Nat.le_trans hxa.size hb1
      generalize wy.setRow pb #[.int .i64 b1, .int .i64 b2] = Wb at *
      clear hy hb1 hb2 hpb HSa HVa vcj vl HIa HSr HPa hxa hxa4 hxb hxrb
      obtain ⟨ac, -, al⟩ := Rg.cells_of HPa'.out
      obtain ⟨bc, -, bl⟩ := Rg.cells_of HPb.out
      obtain ⟨xc, xf, xl⟩ := Rg.cells_of HXb.out
      obtain ⟨yc, yf, yl⟩ := Rg.cells_of HYb.out
      by_cases hf : f = 0
      · by_cases hg : g = 0
        · have d1 : ((f : Int) != 0) = false := by rw [hf]; rfl
          have d2 : ((g : Int) != 0) = false := by rw [hg]; rfl
          have ac0 : Wb.cell? ⟨pa, 0, none⟩ = some (.int .i64 a1) := ac 0
          have ac1 : Wb.cell? ⟨pa, 1, none⟩ = some (.int .i64 a2) := ac 1
          have bc0 : Wb.cell? ⟨pb, 0, none⟩ = some (.int .i64 b1) := bc 0
          have bc1 : Wb.cell? ⟨pb, 1, none⟩ = some (.int .i64 b2) := bc 1
          have xc0 := xc 2
          have xc1 := xc 3
          have yc0 := yc 2
          have yc1 := yc 3
          have xf0 := xf 2
          have xf1 := xf 3
          have yf0 := yf 2
          have yf1 := yf 3
          have Hf := Lib.hid hf
          have Hg := Lib.hid hg
          have hxy : ¬ px = py := by omega
          have n1 : ¬ pa = px := by omega
          have n2 : ¬ px = pa := by omega
          have n3 : ¬ pa = py := by omega
          have n4 : ¬ py = pa := by omega
          have n5 : ¬ pb = px := by omega
          have n6 : ¬ px = pb := by omega
          have n7 : ¬ pb = py := by omega
          have n8 : ¬ py = pb := by omega
          have n9 : ¬ py = px := by omega
          clear hf hg ac bc xc yc xf yf
          go_wp2_with (fail)
          go_region
          go_wp2
          go_roundw
          case rel =>
            unfold StL
            refine ⟨2, X0, (a1, a2), Y0, (b1, b2), by go_num, by omega, ?_, ?_, (fun _ => HO0.out (by decide)), (fun _ => ⟨by rw [← Hf.out]; exact HE1.out, by rw [← Hg.out]; exact HE2.out⟩), ?_⟩
            · show (((((Wb.setCell ⟨px, 2, none⟩ (.int .i64 a1)).setCell ⟨px, 3, none⟩ (.int .i64 a2)).setCell ⟨py, 2, none⟩ (.int .i64 b1)).setCell ⟨py, 3, none⟩ (.int .i64 b2))).heap[px]? = _
              rw [heap_setCell_other _ _ _ _ (by show px ≠ py; omega), heap_setCell_other _ _ _ _ (by show px ≠ py; omega)]
              exact heap_setCell_same _ px 3 _ 59 _ (heap_setCell_same Wb px 2 _ 59 _ HXb.out)
            · show (((((Wb.setCell ⟨px, 2, none⟩ (.int .i64 a1)).setCell ⟨px, 3, none⟩ (.int .i64 a2)).setCell ⟨py, 2, none⟩ (.int .i64 b1)).setCell ⟨py, 3, none⟩ (.int .i64 b2))).heap[py]? = _
              exact heap_setCell_same _ py 3 _ 59 _ (heap_setCell_same _ py 2 _ 59 _ ((heap_setCell_other _ _ _ _ (by show py ≠ px; omega)).trans ((heap_setCell_other _ _ _ _ (by show py ≠ px; omega)).trans HYb.out)))
            · have hq1 : W4.heap.size ≤ px := by have := Hpx.out; omega
              have hq2 : W4.heap.size ≤ py := by omega
              exact Ext.drew (Ext.setCell (Ext.setCell (Ext.setCell (Ext.setCell hxb4 hq1 _) hq1 _) hq2 _) hq2 _)
          case measure => simp [intOf]
        · have d1 : ((f : Int) != 0) = false := by rw [hf]; rfl
          have d2 : ((g : Int) != 0) = true := by rw [bne_iff_ne]; exact hg
          have d3 : ((f : Int) == 0) = true := by rw [hf]; rfl
          clear hf hg ac bc xc yc xf yf
          go_wp2
          go_ret
          exact ⟨rfl, hxw4.trans hxb4⟩
      · have d1 : ((f : Int) != 0) = true := by rw [bne_iff_ne]; exact hf
        have d3 : ((f : Int) == 0) = false := by rw [beq_eq_false_iff_ne]; exact hf
        by_cases hfg : f = g
        · have d4 : ((f : Int) == g) = true := by rw [beq_iff_eq]; exact hfg
          clear hf hfg ac bc xc yc xf yf
          go_wp2
          go_ret
          exact ⟨rfl, hxw4.trans hxb4⟩
        · have d4 : ((f : Int) == g) = false := by rw [beq_eq_false_iff_ne]; exact hfg
          have d5 : ((g : Int) == 2) = true := by rw [beq_iff_eq]; rcases HST.out with h | h | h <;> first | exact absurd h hf | exact absurd h hfg | exact h
          clear hf hfg ac bc xc yc xf yf
          go_wp2
          go_ret
          exact ⟨rfl, hxw4.trans hxb4⟩
    · obtain ⟨o1, o2⟩ := HO0.out (by decide)
      obtain ⟨o3, o4⟩ := HO1.out (by decide)
      have i1 := Lib.hid (evalI_I2 HVR0.out HR4t.out HFO.out o1)
      have i2 := Lib.hid (evalI_I2 HVR0.out HR4.out (scaled_formed _ _ _ HFO.out) o2)
      have i3 := Lib.hid (evalI_I2 HVR1.out HR4t.out HFO.out o3)
      have i4 := Lib.hid (evalI_I2 HVR1.out HR4.out (scaled_formed _ _ _ HFO.out) o4)
      obtain ⟨rx0, ry0, e0⟩ := steep_val HFO.out o1 o2
      obtain ⟨rx1, ry1, e1⟩ := steep_val HFO.out o3 o4
      obtain ⟨⟨p1, p2⟩, f, hp⟩ : ∃ p f, evalI [] (opE' subB (numE X0) (numE X1)) = (p, f) := ⟨_, _, rfl⟩
      obtain ⟨⟨r1, r2⟩, g, hq⟩ : ∃ p f, evalI [] (opE' subB (numE Y0) (numE Y1)) = (p, f) := ⟨_, _, rfl⟩
      have HSG := Lib.hid (fun (hf : f = 0) (hg : g = 0) => steep_sign (s := 1 + q0) (c := q1) (by omega) rx0 rx1 ry0 ry1 e0 e1 (by rw [hp, hf]) (by rw [hq, hg]))
      have HP := Lib.hid hp
      have HQ := Lib.hid hq
      clear o1 o2 o3 o4 rx0 ry0 e0 rx1 ry1 e1 hp hq
      obtain ⟨x01, x02⟩ := X0
      obtain ⟨x11, x12⟩ := X1
      obtain ⟨y01, y02⟩ := Y0
      obtain ⟨y11, y12⟩ := Y1
      obtain ⟨xc, -, xl⟩ := Rg.cells_of HXr.out
      have xc0 := xc 0
      have xc1 := xc 1
      have xc2 := xc 2
      have xc3 := xc 3
      replace xc0 : _ = some (Value.int .i64 x01) := xc0
      replace xc1 : _ = some (Value.int .i64 x02) := xc1
      replace xc2 : _ = some (Value.int .i64 x11) := xc2
      replace xc3 : _ = some (Value.int .i64 x12) := xc3
      have hxw5 := hxw4.trans hx
      clear xc HR4 HR4t HS4 HT4 HV4 HX5 HY5 HW0 HW1 H0 H1 HFO HTW HO0 HO1 HVR0 HVR1
      go_upto_region 15 with (first
        | (go_at_call 24; (with_reducible refine (op_any All subB (numE (x01, x02)) (numE (x11, x12)) _ _ _ (Rd.leaf i1.out) (Rd.leaf i3.out) (fun _ _ => trivial)).mono ?_); rintro e wo ⟨vo, rfl, hxo, hro⟩; have HRO := Lib.hid hro; clear hro)
        | (go_at_call 17; (with_reducible refine (eval_ex [] (opE' subB (numE (x01, x02)) (numE (x11, x12))) _ _ _ _ HRO.out (vrd_nil0 _) HP.out).mono ?_); rintro e wp ⟨rfl, hxp⟩))
      have hh6 : (wp.alloc (.cells #[.int .i64 p1, .int .i64 p2] 26)).heap[wp.heap.size]? = some (.cells #[.int .i64 p1, .int .i64 p2] 26) := block_new rfl
      have hx6 : Ext wr (wp.alloc (.cells #[.int .i64 p1, .int .i64 p2] 26)) := (by with_reducible repeat (first | exact Ext.refl _ | assumption | apply Ext.drewN | apply Ext.drew | apply Ext.alloc | (refine Ext.setCell ?_ (by simp <;> omega) _) | (refine Ext.trans ?_ (by assumption))))
      have HH6 := Lib.hid hh6
      obtain ⟨yc, -, yl⟩ := Rg.cells_of ((hx6.block _ (Rg.lt_of_heap HYr.out)).trans HYr.out)
      have yc0 := yc 0
      have yc1 := yc 1
      have yc2 := yc 2
      have yc3 := yc 3
      replace yc0 : _ = some (Value.int .i64 y01) := yc0
      replace yc1 : _ = some (Value.int .i64 y02) := yc1
      replace yc2 : _ = some (Value.int .i64 y11) := yc2
      replace yc3 : _ = some (Value.int .i64 y12) := yc3
      have hxw6 := hxw5.trans hx6
      clear yc hh6 hx6 hxp hxo HRO xc0 xc1 xc2 xc3 xl HXr HYr
      generalize wp.alloc (.cells #[.int .i64 p1, .int .i64 p2] 26) = W6 at *
      generalize wp.heap.size = b6 at *
      go_upto_region 16 with (first
        | (go_at_call 24; (with_reducible refine (op_any All subB (numE (y01, y02)) (numE (y11, y12)) _ _ _ (Rd.leaf i2.out) (Rd.leaf i4.out) (fun _ _ => trivial)).mono ?_); rintro e wo ⟨vo, rfl, hxo, hro⟩; have HRO := Lib.hid hro; clear hro)
        | (go_at_call 17; (with_reducible refine (eval_ex [] (opE' subB (numE (y01, y02)) (numE (y11, y12))) _ _ _ _ HRO.out (vrd_nil0 _) HQ.out).mono ?_); rintro e wp ⟨rfl, hxp⟩))
      have hx7 : Ext W6 (wp.alloc (.cells #[.int .i64 r1, .int .i64 r2] 26)) := (by with_reducible repeat (first | exact Ext.refl _ | assumption | apply Ext.drewN | apply Ext.drew | apply Ext.alloc | (refine Ext.setCell ?_ (by simp <;> omega) _) | (refine Ext.trans ?_ (by assumption))))
      have hh7 : (wp.alloc (.cells #[.int .i64 r1, .int .i64 r2] 26)).heap[wp.heap.size]? = some (.cells #[.int .i64 r1, .int .i64 r2] 26) := block_new rfl
      obtain ⟨gc, -, gl⟩ := Rg.cells_of hh7
      obtain ⟨kc, -, kl⟩ := Rg.cells_of ((hx7.block _ (Rg.lt_of_heap HH6.out)).trans HH6.out)
      have gc0 := gc 0
      have kc0 := kc 0
      replace gc0 : _ = some (Value.int .i64 r1) := gc0
      replace kc0 : _ = some (Value.int .i64 p1) := kc0
      have hxw7 := hxw6.trans hx7
      clear gc kc hh7 hx7 hxp hxo HRO yc0 yc1 yc2 yc3 yl HH6
      generalize wp.alloc (.cells #[.int .i64 r1, .int .i64 r2] 26) = W7 at *
      generalize wp.heap.size = b7 at *
      by_cases hf : f = 0
      · have d1 : ((f : Int) != 0) = false := by rw [hf]; rfl
        by_cases hg : g = 0
        · have d2 : ((g : Int) != 0) = false := by rw [hg]; rfl
          obtain ⟨s1, s2⟩ := HSG.out hf hg
          clear hf hg
          rcases Int.lt_trichotomy p1 0 with h | h | h
          · have k1 : ¬ 0 < p1 := by omega
            have k2 : ¬ 0 < r1 := by omega
            have k3 : ((p1 : Int) == 0) = false := by rw [beq_eq_false_iff_ne]; omega
            have k4 : ((r1 : Int) == 0) = false := by rw [beq_eq_false_iff_ne]; omega
            clear s1 s2 h
            go_wp2
            go_ret
            exact ⟨rfl, hxw7⟩
          · have k1 : r1 = 0 := s2.1 h
            subst h k1
            clear s1 s2
            go_wp2
            go_ret
            exact ⟨rfl, hxw7⟩
          · have k2 : 0 < r1 := s1.1 h
            have k3 : ((p1 : Int) == 0) = false := by rw [beq_eq_false_iff_ne]; omega
            have k4 : ((r1 : Int) == 0) = false := by rw [beq_eq_false_iff_ne]; omega
            clear s1 s2
            go_wp2
            go_ret
            exact ⟨rfl, hxw7⟩
        · have d2 : ((g : Int) != 0) = true := by rw [bne_iff_ne]; exact hg
          clear hf hg
          go_wp2
          go_ret
          exact ⟨rfl, hxw7⟩
      · have d1 : ((f : Int) != 0) = true := by rw [bne_iff_ne]; exact hf
        clear hf
        go_wp2
        go_ret
        exact ⟨rfl, hxw7⟩
end Go.Proofs.Ytgkdeknfmmgbdaa
