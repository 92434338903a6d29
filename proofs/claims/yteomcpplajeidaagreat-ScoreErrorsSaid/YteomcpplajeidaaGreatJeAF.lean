/-
  Lemmas of this claim (JeAF). Nothing is asked.
-/
import Derived.Test.YteomcpplajeidaaGreatJeAE
import Derived.Test.YteomcpplajeidaaGreatJeQ
namespace Go.Proofs.YteomcpplajeidaaGreat
set_option linter.unusedVariables false
set_option linter.unusedSimpArgs false
set_option maxRecDepth 100000
open Go.RowKit
def tiesF (cs : List Cr) (a b : En) : List ByteArray → Bool
  | [] => decide (a.rec_ < b.rec_)
  | nm :: l => if tieF cs nm a b = 0 then tiesF cs a b l else decide (0 < tieF cs nm a b)
def betF (cs : List Cr) (ts : List ByteArray) (a b : En) (p q : Int × Int) : Bool :=
  if cmpI p q = 0 then tiesF cs a b ts else decide (0 < cmpI p q)
theorem tiesF_drop (cs : List Cr) (a b : En) (ts : List ByteArray) (k : Nat) (h : k < ts.length) : tiesF cs a b (ts.drop k) = if tieF cs ts[k] a b = 0 then tiesF cs a b (ts.drop (k + 1)) else decide (0 < tieF cs ts[k] a b) := by
  rw [List.drop_eq_getElem_cons h, tiesF]
theorem al {w : World} {g : Nat} {o o' : Obj} (h : w.heap[g]? = some o) : (w.alloc o').heap[g]? = some o := ((Ext.alloc (Ext.refl w) o').block _ (Rg.lt_of_heap h)).trans h
set_option maxHeartbeats 8000000 in
theorem Better_any (r : TnR) (cs : List Cr) (ts : List ByteArray) (a b : En) (sa sb : Sl) (p q : Int × Int) (hp : I2 p) (hq : I2 q) (w : World) (h2 : SR cellsCr 5 w (slV r.cs) cs) (h4 : SR strC 1 w (slV r.ts) ts) (ha : VRd All w a.vs (slV sa)) (hb : VRd All w b.vs (slV sb)) :
    Calls Tryz.prog 20 #[.agg (tenC r), .agg (enC a sa), .agg (enC b sb), rv p, rv q] w fun e w' => e = .returned (.bool (betF cs ts a b p q)) ∧ Ext w w' := by
  obtain ⟨p1, p2⟩ := p
  obtain ⟨q1, q2⟩ := q
  have HCM := Lib.hid (fun wz => Cmp_any (p1, p2) (q1, q2) hp hq wz)
  have HC := Lib.hid h2; have HTS := Lib.hid h4; have HA := Lib.hid ha; have HB := Lib.hid hb
  have HBF : Hid (betF cs ts a b (p1, p2) (q1, q2) = if cmpI (p1, p2) (q1, q2) = 0 then tiesF cs a b ts else decide (0 < cmpI (p1, p2) (q1, q2))) := Lib.hid rfl
  generalize cmpI (p1, p2) (q1, q2) = cm at *
  obtain ⟨W1, hW1⟩ : ∃ W1, W1 = ((((w.alloc (.cells (tenC r) 39)).alloc (.cells (enC a sa) 57)).alloc (.cells (enC b sb) 57)).alloc (.cells #[.int .i64 p1, .int .i64 p2] 30)).alloc (.cells #[.int .i64 q1, .int .i64 q2] 30) := ⟨_, rfl⟩
  have hx1 : Ext w W1 := by rw [hW1]; exact Ext.alloc (Ext.alloc (Ext.alloc (Ext.alloc (Ext.alloc (Ext.refl _) _) _) _) _) _
  have g5 : W1.heap[w.heap.size]? = some (.cells (tenC r) 39) := by rw [hW1]; exact al (al (al (al (block_new rfl))))
  have g6 : W1.heap[w.heap.size + 1]? = some (.cells (enC a sa) 57) := by rw [hW1]; exact al (al (al (block_new (by simp))))
  have g7 : W1.heap[w.heap.size + 1 + 1]? = some (.cells (enC b sb) 57) := by rw [hW1]; exact al (al (block_new (by simp)))
  have g8 : W1.heap[w.heap.size + 1 + 1 + 1]? = some (.cells #[.int .i64 p1, .int .i64 p2] 30) := by rw [hW1]; exact al (block_new (by simp))
  have g9 : W1.heap[w.heap.size + 1 + 1 + 1 + 1]? = some (.cells #[.int .i64 q1, .int .i64 q2] 30) := by rw [hW1]; exact block_new (by simp)
  have HX1 := Lib.hid hx1
  have d0 : W1.cell? ⟨w.heap.size + 1 + 1 + 1, 0, none⟩ = some (.int .i64 p1) := cell_of_row W1 _ 0 _ _ _ g8
  have d1 : W1.cell? ⟨w.heap.size + 1 + 1 + 1, 1, none⟩ = some (.int .i64 p2) := cell_of_row W1 _ 1 _ _ _ g8
  have d2 : W1.cell? ⟨w.heap.size + 1 + 1 + 1 + 1, 0, none⟩ = some (.int .i64 q1) := cell_of_row W1 _ 0 _ _ _ g9
  have d3 : W1.cell? ⟨w.heap.size + 1 + 1 + 1 + 1, 1, none⟩ = some (.int .i64 q2) := cell_of_row W1 _ 1 _ _ _ g9
  have l8 := Rg.lt_of_heap g8; have l9 := Rg.lt_of_heap g9
  have HG : Hid (∀ W, Ext W1 W → W.heap[w.heap.size]? = some (.cells (tenC r) 39) ∧ W.heap[w.heap.size + 1]? = some (.cells (enC a sa) 57) ∧ W.heap[w.heap.size + 1 + 1]? = some (.cells (enC b sb) 57)) := Lib.hid fun W hW => ⟨(hW.block _ (Rg.lt_of_heap g5)).trans g5, (hW.block _ (Rg.lt_of_heap g6)).trans g6, (hW.block _ (Rg.lt_of_heap g7)).trans g7⟩
  clear hx1 g5 g6 g7 g8 g9 h2 h4 ha hb
  go_enter Tryz.func20, Tryz.ntmps20
  go_upto_region 1 with (fail)
  rw [← hW1]
  clear hW1
  obtain ⟨G9, hG9⟩ : ∃ x, x = w.heap.size + 1 + 1 + 1 + 1 := ⟨_, rfl⟩
  obtain ⟨G8, hG8⟩ : ∃ x, x = w.heap.size + 1 + 1 + 1 := ⟨_, rfl⟩
  obtain ⟨G7, hG7⟩ : ∃ x, x = w.heap.size + 1 + 1 := ⟨_, rfl⟩
  obtain ⟨G6, hG6⟩ : ∃ x, x = w.heap.size + 1 := ⟨_, rfl⟩
  obtain ⟨G5, hG5⟩ : ∃ x, x = w.heap.size := ⟨_, rfl⟩
  rw [← hG9] at d2 d3 l9 ⊢
  rw [← hG8] at d0 d1 l8 ⊢
  rw [← hG7] at HG ⊢
  rw [← hG6] at HG ⊢
  rw [← hG5] at HG ⊢
  clear hG9 hG8 hG7 hG6 hG5
  by_cases hcm : cm = 0
  · subst hcm
    rw [if_pos rfl] at HBF
    obtain ⟨tb, tc, hform⟩ := HTS.out.form
    have hle := HTS.out.le
    have HFM := Lib.hid hform
    clear hform
    go_upto_region 4 with (go_at_call 44; (with_reducible refine (HCM.out _).mono ?_); rintro e W2 ⟨rfl, hx2⟩; have HX2 := Lib.hid hx2; clear hx2)
    have x11 : W2.cell? ⟨G5, 11, none⟩ = some (.slice tb ts.length tc) := by
      rw [← HFM.out]
      exact cell_of_row W2 G5 11 _ _ _ (HG.out W2 HX2.out).1
    have l5 := Rg.lt_of_heap (HG.out W2 HX2.out).1
    go_upto_region 5 with (fail)
    have HT1 := HTS
    rw [HFM.out] at HT1
    clear d0 d1 d2 d3 l8 l9 x11 l5
    go_loopw [25] (fun kv wr => ∃ k : Nat, kv = .int .i64 k ∧ k ≤ ts.length ∧ Hid (tiesF cs a b ts = tiesF cs a b (ts.drop k)) ∧ Hid (Ext W1 wr)) (fun kv _ => ts.length - (intOf kv).toNat)
    case atStart => exact ⟨0, rfl, Nat.zero_le _, Lib.hid rfl, HX2⟩
    case round =>
      obtain ⟨k, rfl, hk, HD, HX⟩ := hrel
      by_cases hkl : k < ts.length
      · obtain ⟨g, rfl, -, hgl, hcell⟩ := str_at (HT1.out.ext (HX1.out.trans HX.out)) k hkl
        have HDD := Lib.hid (HD.out.trans (tiesF_drop cs a b ts k hkl))
        generalize ts[k] = nm at *
        have hki : (k : Int) < (ts.length : Int) := by omega
        have HG' := Lib.hid (HG.out wr HX.out)
        go_upto_region 7 with (fail)
        have HXW := Lib.hid (HX1.out.trans HX.out)
        refine Rr.wp_region [(0, .y), (1, .y), (3, .y), (4, .y), (2, .z), (5, .y)] (fun _ => (.cells #[] 29, Rg.ptr)) (by kernel_rfl) (by kernel_rfl) ?_
        (refine Rr.wr_y (by simp only [List.getElem?_toArray, List.getElem?_cons_succ, List.getElem?_cons_zero]; rfl) (by rfl) ?_
         apply Exists.intro
         refine ⟨fun wz hw _ => ?_, ?_⟩
         · exact up_row (by rfl) ((hw.block _ (Rg.lt_of_heap HG'.out.1)).trans HG'.out.1) Tryz.underlying39 (by kernel_rfl)
         simp only [Act.put, List.setIfInBounds_toArray, List.set_cons_zero, List.set_cons_succ])
        (refine Rr.wr_y (by simp only [List.getElem?_toArray, List.getElem?_cons_succ, List.getElem?_cons_zero]; rfl) (by rfl) ?_
         apply Exists.intro
         refine ⟨fun wz hw _ => ?_, ?_⟩
         · have hcz := hw.cells.1
           go_simp
           (with_reducible exact Rg.up_value)
         simp only [Act.put, List.setIfInBounds_toArray, List.set_cons_zero, List.set_cons_succ])
        (refine Rr.wr_y (by simp only [List.getElem?_toArray, List.getElem?_cons_succ, List.getElem?_cons_zero]; rfl) (by rfl) ?_
         apply Exists.intro
         refine ⟨fun wz hw _ => ?_, ?_⟩
         · exact up_row (by rfl) ((hw.block _ (Rg.lt_of_heap HG'.out.2.1)).trans HG'.out.2.1) Tryz.underlying57 (by kernel_rfl)
         simp only [Act.put, List.setIfInBounds_toArray, List.set_cons_zero, List.set_cons_succ])
        (refine Rr.wr_y (by simp only [List.getElem?_toArray, List.getElem?_cons_succ, List.getElem?_cons_zero]; rfl) (by rfl) ?_
         apply Exists.intro
         refine ⟨fun wz hw _ => ?_, ?_⟩
         · exact up_row (by rfl) ((hw.block _ (Rg.lt_of_heap HG'.out.2.2)).trans HG'.out.2.2) Tryz.underlying57 (by kernel_rfl)
         simp only [Act.put, List.setIfInBounds_toArray, List.set_cons_zero, List.set_cons_succ])
        refine Rr.wr_z (fun v w' => TieV cs nm v w') (by simp only [List.getElem?_toArray, List.getElem?_cons_succ, List.getElem?_cons_zero]; rfl) (by rfl) (fun v w1 w2 h e => by first | exact Rd.ext e h | exact h.ext e) (fun wz hw hh => ?_) (fun u => ?_)
        · have hcz := hw.cells.1
          go_simp
          apply Rr.upR_enter
          (with_reducible refine (tie_any r cs nm wz (HC.out.ext (HXW.out.trans hw))).mono ?_)
          rintro e w3 ⟨v3, rfl, hx3, hr3⟩
          exact ⟨v3, rfl, hx3, hr3⟩
        simp only [Act.put, List.setIfInBounds_toArray, List.set_cons_zero, List.set_cons_succ]
        (refine Rr.wr_y (by simp only [List.getElem?_toArray, List.getElem?_cons_succ, List.getElem?_cons_zero]; rfl) (by rfl) ⟨.int .i64 (tieF cs nm a b), fun wz hw hh => ?_, ?_⟩
         · have ht := hold0 hh
           rw [tie_val]
           rcases ht with ⟨h1, rfl⟩ | ⟨h1, h2, rfl⟩ | ⟨h1, c, pp, qq, h2, rfl, h3, h4⟩
           · rw [if_pos h1]
             go_simp
             apply Rg.up_enter
             (with_reducible refine (call75 a b sa sb wz).mono ?_)
             rintro e w3 ⟨rfl, hb3⟩
             exact ⟨rfl, hb3⟩
           · rw [if_neg (by rw [h1]; decide), h2]
             go_simp
             apply Rg.up_enter
             (with_reducible refine (call78 a b sa sb wz).mono ?_)
             rintro e w3 ⟨rfl, hb3⟩
             exact ⟨rfl, hb3⟩
           · rw [if_neg (by rw [h1]; decide), h2]
             go_simp
             apply Rg.up_enter
             (with_reducible refine (call79 a b sa sb nm (if c.less then -1 else 1) (by cases c.less <;> simp) pp qq wz (HA.out.ext (HXW.out.trans hw)) (HB.out.ext (HXW.out.trans hw)) h3 h4).mono ?_)
             rintro e w3 ⟨rfl, hb3⟩
             exact ⟨rfl, hb3⟩
         simp only [Act.put, List.setIfInBounds_toArray, List.set_cons_zero, List.set_cons_succ])
        refine Rr.wr_nil ?_
        intro wy hy hh
        simp only [List.length_cons, List.length_nil, List.drop_succ_cons, List.drop_zero, Nat.reduceAdd]
        clear hh
        have HY := Lib.hid (HX.out.trans hy)
        clear hy
        obtain ⟨z, hz⟩ : ∃ z, z = tieF cs nm a b := ⟨_, rfl⟩
        rw [← hz] at HDD ⊢
        clear hz
        by_cases hz0 : z = 0
        · subst hz0
          have HD2 : Hid (tiesF cs a b ts = tiesF cs a b (ts.drop (k + 1))) := Lib.hid (by rw [HDD.out]; exact if_pos rfl)
          go_wp2_with (fail)
          go_roundw
          case rel => exact ⟨k + 1, by rfl, by omega, HD2, HY⟩
          case measure => simp [intOf]; omega
        · have hzq : (z == 0) = false := by rw [beq_eq_false_iff_ne]; exact hz0
          have HD2 : Hid (tiesF cs a b ts = decide (0 < z)) := Lib.hid (by rw [HDD.out]; exact if_neg hz0)
          go_wp2_with (fail)
          go_ret
          exact ⟨by rw [HBF.out, HD2.out]; rfl, HX1.out.trans HY.out⟩
      · obtain rfl : k = ts.length := by omega
        have HD2 : Hid (tiesF cs a b ts = decide (a.rec_ < b.rec_)) := Lib.hid (by rw [HD.out, List.drop_length]; rfl)
        have v2 : wr.cell? ⟨G6, 2, none⟩ = some (.int .i64 a.rec_) := cell_of_row wr G6 2 _ _ _ (HG.out wr HX.out).2.1
        have v3 : wr.cell? ⟨G7, 2, none⟩ = some (.int .i64 b.rec_) := cell_of_row wr G7 2 _ _ _ (HG.out wr HX.out).2.2
        have l6 := Rg.lt_of_heap (HG.out wr HX.out).2.1
        have l7 := Rg.lt_of_heap (HG.out wr HX.out).2.2
        go_wp2_with (fail)
        go_ret
        exact ⟨by rw [HBF.out, HD2.out]; rfl, HX1.out.trans HX.out⟩
  · have hcq : (cm == 0) = false := by rw [beq_eq_false_iff_ne]; exact hcm
    rw [if_neg hcm] at HBF
    go_upto_region 3 with (go_at_call 44; (with_reducible refine (HCM.out _).mono ?_); rintro e W2 ⟨rfl, hx2⟩; have HX2 := Lib.hid hx2; clear hx2)
    go_wp2_with (fail)
    go_ret
    exact ⟨by rw [HBF.out]; rfl, HX1.out.trans HX2.out⟩
end Go.Proofs.YteomcpplajeidaaGreat
namespace Go.Proofs.YteomcpplajeidaaGreat
set_option linter.unusedVariables false
set_option linter.unusedSimpArgs false
set_option maxRecDepth 100000
open Go.RowKit
theorem flat_set {α : Type} {cs : α → List Value} {sz : Nat} : ∀ (us : List α) (_ : ∀ x, (cs x).length = sz) (i : Nat) (_ : i < us.length) (x : α), (us.set i x).flatMap cs = (us.flatMap cs).take (i * sz) ++ cs x ++ (us.flatMap cs).drop (i * sz + sz)
  | y :: us, hl, 0, _, x => by
    rw [List.set_cons_zero, List.flatMap_cons, List.flatMap_cons, Nat.zero_mul, List.take_zero, Nat.zero_add, List.nil_append, ← hl y, List.drop_left]
  | y :: us, hl, i + 1, h, x => by
    rw [List.set_cons_succ, List.flatMap_cons, List.flatMap_cons, flat_set us hl i (by simpa using h) x]
    have e1 : (i + 1) * sz = (cs y).length + i * sz := by rw [hl y, Nat.succ_mul]; omega
    rw [e1, List.take_length_add_append, Nat.add_assoc, List.drop_length_add_append]
    simp only [List.append_assoc]
theorem store_elem {α : Type} {cs : α → List Value} {T sz : Nat} (hl : ∀ x, (cs x).length = sz) (hone : ∀ x, ∀ v ∈ cs x, v.oneCell' = true) (hT : (Tryz.prog.info? T).map (·.size) = some sz)
    {ops : Array Oper} {rest : List Oper} {o : Oper} {a : Act} {w : World} {Q : Exit → Act → World → Prop} (hgd : o.guard = none) (x y : Operand) (ho : o.op = .store T x y)
    (g i n c B : Nat) (gs : List α) (x' : α) (hx : a.eval x = .pointer (some ⟨g, i * sz, none⟩)) (hy : a.eval y = .agg (cs x').toArray) (hr : w.ownsRow B T sz (.slice (some ⟨g, 0, none⟩) n c) n (gs.flatMap cs)) (hn : gs.length = n) (hi : i < n)
    (h : ∀ w', w'.ownsRow B T sz (.slice (some ⟨g, 0, none⟩) n c) n ((gs.set i x').flatMap cs) → w.grownBy w' (some g) → wpList Tryz.prog ops Q rest (a.put o.dst undef) w') : wpList Tryz.prog ops Q (o :: rest) a w := by
  have hfl : (gs.flatMap cs).length = n * sz := hr.1
  rcases hr.2 with ⟨h1, -⟩ | ⟨g', cap, cur, hv, hB, hb, h1, h2, h3, h4⟩
  · cases h1
  injection hv with hv1 hv2 hv3
  injection hv1 with hv1
  injection hv1 with hv1 _ _
  subst hv1 hv3
  have hm : i * sz + sz ≤ n * sz := by rw [← Nat.succ_mul]; exact Nat.mul_le_mul_right _ hi
  have hm2 : n * sz ≤ c * sz := Nat.mul_le_mul_right _ h1
  have hcl : cur.toList.length = c * sz := by rw [Array.length_toList]; exact h3
  have hA : cur.toList = gs.flatMap cs ++ cur.toList.drop (n * sz) := by rw [← h4, List.take_append_drop]
  have h6 : (cs x').length = sz := hl x'
  refine wpList_plain hgd fun K hK => ?_
  have hst0 := run_storeCells_at (P := Tryz.prog) g (i * sz) T (cs x') 0 cur w hb (by rw [h6, h3]; omega) (hone x')
  obtain ⟨new, hnew⟩ : ∃ new, new = (cur.toList.take (i * sz + 0) ++ cs x' ++ cur.toList.drop (i * sz + 0 + (cs x').length)).toArray := ⟨_, rfl⟩
  rw [← hnew] at hst0
  have hs : (Go.sizeOf T).run Tryz.prog w = .ok sz w := by
    cases hq : Tryz.prog.info? T with
    | none => simp [hq] at hT
    | some i =>
      have hs : i.size = sz := by simpa [hq] using hT
      simp [sizeOf, typeInfo, hq, hs]
  have hst : (storeVar T ⟨g, i * sz, none⟩ (.agg (cs x').toArray)).run Tryz.prog w = .ok () (w.setRow g new) := by
    unfold storeVar
    simp only [Value.cells, Sem.run_bind, hs, Result.andThen_ok, List.size_toArray, h6, ne_eq, not_true_eq_false, if_false]
    exact hst0
  unfold Oper.wp execOp
  simp only [ho, hx, hy, Instr.storeAt, Instr.sureAddr, Sem.run_bind, Sem.run_pure, Result.andThen_ok, hst]
  refine hK _ _ (h _ ⟨?_, .inr ⟨g, c, new, rfl, hB, setRow_heap w g cur new T _ hb, h1, h2, ?_, ?_⟩⟩ ⟨rfl, rfl, rfl, by simp, fun k _ hk => setRow_other w g k new (fun e => hk (by rw [e]))⟩)
  · rw [flat_set (sz := sz) gs hl i (by omega), List.length_append, List.length_append, List.length_take, List.length_drop, h6, hfl]
    omega
  · have : new.toList.length = c * sz := by
      rw [hnew]
      simp only [List.length_append, List.length_take, List.length_drop, h6, hcl]
      omega
    rw [← Array.length_toList]
    exact this
  · have hnl : new.toList = (gs.set i x').flatMap cs ++ cur.toList.drop (n * sz) := by
      rw [hnew, flat_set (sz := sz) gs hl i (by omega)]
      simp only [Nat.add_zero, h6]
      generalize cur.toList.drop (n * sz) = R at *
      rw [hA]
      generalize gs.flatMap cs = F at *
      rw [List.take_append, List.drop_append, show i * sz - F.length = 0 by omega, show i * sz + sz - F.length = 0 by omega, List.take_zero, List.drop_zero, List.append_nil]
      simp only [List.append_assoc]
    rw [hnl]
    have hl2 : ((gs.set i x').flatMap cs).length = n * sz := by
      rw [flat_set (sz := sz) gs hl i (by omega), List.length_append, List.length_append, List.length_take, List.length_drop, h6, hfl]
      omega
    rw [← hl2, List.take_left]
theorem row_at {α : Type} {cs : α → List Value} {sz : Nat} {w : World} {base : Option Addr} {n c : Nat} {xs : List α} (h : SR cs sz w (.slice base n c) xs) (k : Nat) (hk : k < xs.length) : ∃ b, base = some ⟨b, 0, none⟩ ∧ ∀ j u, (cs xs[k])[j]? = some u → w.cell? ⟨b, k * sz + j, none⟩ = some u := by
  obtain ⟨b, h1, -, h3⟩ := h.block k hk
  exact ⟨b, h1, h3 k hk⟩
structure Sc where
  e : En
  s : Sl
  p : Int × Int
def Sc.cs (x : Sc) : List Value := [.int .i64 x.e.bid, .int .i64 x.e.lot, .int .i64 x.e.rec_, .int .i64 x.e.price, slV x.s, .int .i64 x.p.1, .int .i64 x.p.2]
theorem sc_one (x : Sc) : ∀ v ∈ x.cs, v.oneCell' = true := by
  intro v hv
  unfold Sc.cs at hv
  simp only [List.mem_cons, List.not_mem_nil, or_false] at hv
  rcases hv with rfl | rfl | rfl | rfl | rfl | rfl | rfl <;> rfl
theorem sc_len (x : Sc) : x.cs.length = 7 := rfl
abbrev ER := En × Sl
def cellsEn (x : ER) : List Value := [.int .i64 x.1.bid, .int .i64 x.1.lot, .int .i64 x.1.rec_, .int .i64 x.1.price, slV x.2]
theorem one_en (x : ER) : (cellsEn x).length = 5 ∧ ∀ c ∈ cellsEn x, c.oneCell' = true := ⟨rfl, by intro c hc; simp [cellsEn] at hc; rcases hc with rfl | rfl | rfl | rfl | rfl <;> rfl⟩
structure Rk where
  bid : Int
  p : Int × Int
  place : Int
  out : Int
def Rk.cs (x : Rk) : List Value := [.int .i64 x.bid, .int .i64 x.p.1, .int .i64 x.p.2, .int .i64 x.place, .int .i64 x.out]
theorem one_rk (x : Rk) : x.cs.length = 5 ∧ ∀ c ∈ x.cs, c.oneCell' = true := ⟨rfl, by intro c hc; simp [Rk.cs] at hc; rcases hc with rfl | rfl | rfl | rfl | rfl <;> rfl⟩
theorem one_sc (x : Sc) : x.cs.length = 7 ∧ ∀ c ∈ x.cs, c.oneCell' = true := ⟨rfl, sc_one x⟩
end Go.Proofs.YteomcpplajeidaaGreat
