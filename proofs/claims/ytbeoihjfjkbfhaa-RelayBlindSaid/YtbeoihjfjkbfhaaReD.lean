/-
  Ask, where the question is taken. Condition: a relay lies at p.
-/
import Derived.Test.YtbeoihjfjkbfhaaReC
namespace Go.Proofs.Ytbeoihjfjkbfhaa
set_option linter.unusedVariables false
set_option linter.unusedSimpArgs false
open Go.RowKit
theorem put_new {l : List (Qn × Int)} {q : Qn} (h : ¬ q ∈ l.map (·.1)) (z : Int) : putL (mapL l) q (.int .i64 z) = mapL (l ++ [(q, z)]) := by
  unfold putL
  rw [mapL_keys, if_neg h]
  simp [mapL]
theorem perF_ok {every t : Int} (ht : OkI t) : OkI (perF every t) := by
  have h1 : 1 ≤ max every 1 := by omega
  have h2 := tdiv_in ht h1
  unfold perF
  rw [perF_tdiv _ t h1]
  split
  · exact h2.2 (by assumption)
  · exact h2.1
/-- The store of the question, and what comes after. -/
def Rl.asked (r : Rl) (q : Qn) (t : Int) : Rl := { r with last := t, timed := true, l := r.l ++ [(q, perF r.every t)] }
set_option maxRecDepth 100000 in
set_option maxHeartbeats 4000000 in
theorem ask_ok {B : Nat} (p : Nat) (mb : Option Nat) (r : Rl) (q : Qn) (t : Int) (w : World) (h : RW B w p mb r) (hB : B ≤ w.heap.size) (hs : ¬ q.text.size = 0) (hq : OkQ q) (ht : OkI t) (hc : r.closed = false) (ho : ¬ (r.timed = true ∧ t < r.last)) (hm : ¬ q ∈ r.l.map (·.1)) (hn : ¬ 1000 ≤ r.l.length) :
    Calls Try.prog 20 #[.pointer (some ⟨p, 0, none⟩), .int .i64 q.who, .int .i64 t, .string q.text] w fun e w' => e = .returned (.int .i64 0) ∧ ∃ mb', RW B w' p mb' (r.asked q t) ∧ KW p mb w w' ∧ (mb' = mb ∨ ∃ b, mb' = some b ∧ w.heap.size ≤ b) := by
  have hs4 := hq.2
  have hx := Ext.alloc (Ext.refl w) (.cells #[.int .i64 q.who, .string q.text] 66)
  have HX := Lib.hid hx
  have hL := fun n => look_mq ((h.ext hx).map.ext ((Ext.refl _).drewN n)) hq
  simp only [decide_eq_false hm, encQ] at hL
  have hLen := fun n => len_mq ((h.ext hx).map.ext ((Ext.refl _).drewN n)) 3
  have HQ := Lib.hid hq; have HM := Lib.hid hm; have HH := Lib.hid h; have HT := Lib.hid ht; have HB := Lib.hid hB; have HN := Lib.hid hn
  obtain ⟨who, text⟩ := q
  simp only at *
  obtain ⟨hte, hti⟩ := txt_ne hs
  have h4 : ¬ (4000 : Int) < text.size := by omega
  obtain ⟨-, -, c2, c3, c4, c5⟩ := Rl.cells_at (h.ext hx).row
  rw [hc] at c5
  have HC := Lib.hid hc
  have hO := old_any p mb r t _ (h.ext hx).row
  rw [show (r.timed && decide (t < r.last)) = false by
    cases ht : r.timed
    · rfl
    · simp only [Bool.true_and, decide_eq_false_iff_not]; exact fun h => ho ⟨ht, h⟩] at hO
  obtain ⟨p9, hp9⟩ : ∃ p9, p9 = w.heap.size := ⟨_, rfl⟩
  have HR9 : Hid ((w.alloc (.cells #[.int .i64 who, .string text] 66)).heap[p9]? = some (.cells #[.int .i64 who, .string text] 66)) := Lib.hid (by rw [hp9]; exact alloc_at w _)
  have q0 : (w.alloc (.cells #[.int .i64 who, .string text] 66)).cell? ⟨p9, 0, none⟩ = some (.int .i64 who) := cell_of_row _ _ 0 _ _ _ HR9.out
  have q1 : (w.alloc (.cells #[.int .i64 who, .string text] 66)).cell? ⟨p9, 1, none⟩ = some (.string text) := cell_of_row _ _ 1 _ _ _ HR9.out
  have hmm := @run_makeMap Try.prog
  have qT : ∀ (w : World) (r : Option Nat), (binOp .eql 54 (.map r) (.map none)).run Try.prog w = .ok (.bool r.isNone) w := fun w r => run_eql_map_nil w _ _ _ r Try.underlying54
  have HRP := Lib.hid (h.ext hx).row
  have HMP := Lib.hid (h.ext hx).map
  have f2 := (Rg.cells_of HRP.out).2.1 2
  have f3 := (Rg.cells_of HRP.out).2.1 3
  have f4 := (Rg.cells_of HRP.out).2.1 4
  have hpl := Rg.lt_of_heap HRP.out
  have hpne : ¬ p = p9 := by rw [hp9]; exact Nat.ne_of_lt h.lt
  clear hc h ho hm hq ht hB hx
  go_enter Try.func20, Try.ntmps20
  go_upto_region 8 with (go_at_call 26; (with_reducible refine hO.mono ?_); rintro e w1 ⟨rfl, rfl⟩)
  rw [← hp9]
  have HP9 := Lib.hid hp9
  clear hp9 hO
  generalize w.alloc (.cells #[.int .i64 who, .string text] 66) = W at *
  generalize valQ r.l _ = z at *
  have hn2 : ¬ (1000 : Int) ≤ (r.l.length : Nat) := by omega
  obtain ⟨len, hlen⟩ : ∃ len, len = r.l.length := ⟨_, rfl⟩
  rw [← hlen] at hn2
  simp only [← hlen] at hLen
  clear hn hlen
  go_quiet (fail)
  clear hL
  cases mb with
  | none =>
    go_upto_region 14 with (fail)
    have hWr : ((W.drewN nq).alloc (.map #[] 0)).heap[p]? = some (.cells (r.cells none) 56) := ((Ext.alloc (Ext.refl (W.drewN nq)) _).block p hpl).trans HRP.out
    have e2 : ((W.drewN nq).alloc (.map #[] 0)).cell? ⟨p, 2, none⟩ = some (.map none) := (Rl.cells_at hWr).2.2.1
    have g2 := (Rg.cells_of hWr).2.1 2
    have hMn : MP encQ OkQ ((W.drewN nq).alloc (.map #[] 0)) (W.drewN nq).heap.size [] := MP.made _
    have hr0 : r.l = [] := HMP.out
    go_upto_region 15 with (fail)
    obtain ⟨b, hb⟩ : ∃ b, b = W.heap.size := ⟨_, rfl⟩
    have hbp : b ≠ p := by omega
    have hb9 : p9 ≠ b := by have := Rg.lt_of_heap HR9.out; omega
    have hWb : (W.drewN nq).heap.size = b := hb.symm
    have hW0 : W.heap.size = b := hb.symm
    have hbw : w.heap.size ≤ b := by have := HX.out.size; omega
    have h15 := heap_setCell_row (o := 2) (.map (some (W.drewN nq).heap.size)) hWr
    rw [hWb] at h15 hMn
    simp only [hW0]
    have h16 : (((W.drewN nq).alloc (.map #[] 0)).setCell ⟨p, 2, none⟩ (.map (some b))).heap[p]? = some (.cells (r.cells (some b)) 56) := h15
    have h9X : (((W.drewN nq).alloc (.map #[] 0)).setCell ⟨p, 2, none⟩ (.map (some b))).heap[p9]? = some (.cells #[.int .i64 who, .string text] 66) := by
      rw [heap_setCell_other _ (Ne.symm hpne)]
      exact ((Ext.alloc (Ext.refl (W.drewN nq)) _).block p9 (Rg.lt_of_heap HR9.out)).trans HR9.out
    have hMX : MP encQ OkQ (((W.drewN nq).alloc (.map #[] 0)).setCell ⟨p, 2, none⟩ (.map (some b))) b (mapL r.l) := by
      rw [hr0]
      exact hMn.setCell hbp _
    have hKX : KW p (some b) w (((W.drewN nq).alloc (.map #[] 0)).setCell ⟨p, 2, none⟩ (.map (some b))) := (KW.of_ext ((HX.out.drewN nq).alloc _)).setCell _
    generalize ((W.drewN nq).alloc (.map #[] 0)).setCell ⟨p, 2, none⟩ (.map (some b)) = X at *
    obtain ⟨-, -, -, x3, x4, -⟩ := Rl.cells_at h16
    have y3 := (Rg.cells_of h16).2.1 3
    have y4 := (Rg.cells_of h16).2.1 4
    have ypl := Rg.lt_of_heap h16
    have H16 := Lib.hid h16; have H9X := Lib.hid h9X; have HMX := Lib.hid hMX; have HKX := Lib.hid hKX; have HB9 := Lib.hid hb9; have HBP := Lib.hid hbp; have HBW := Lib.hid hbw
    clear h15 h16 h9X hMX hKX hb9 hbp hWr e2 g2 hMn hb hWb hW0 hbw
    go_upto_region 16 with (fail)
    have hV : ((X.setCell ⟨p, 3, none⟩ (.int .i64 t)).setCell ⟨p, 4, none⟩ (.bool true)).heap[p]? = some (.cells (({ r with last := t, timed := true } : Rl).cells (some b)) 56) := by
      have h1 := heap_setCell_row (o := 3) (.int .i64 t) H16.out
      have h2 := heap_setCell_row (o := 4) (.bool true) h1
      exact h2
    have hK : KW p (some b) w ((X.setCell ⟨p, 3, none⟩ (.int .i64 t)).setCell ⟨p, 4, none⟩ (.bool true)) := (HKX.out.setCell _).setCell _
    have hbp := HBP.out
    have hMV : MP encQ OkQ ((X.setCell ⟨p, 3, none⟩ (.int .i64 t)).setCell ⟨p, 4, none⟩ (.bool true)) b (mapL r.l) := (HMX.out.setCell hbp _).setCell hbp _
    have h9V : ((X.setCell ⟨p, 3, none⟩ (.int .i64 t)).setCell ⟨p, 4, none⟩ (.bool true)).heap[p9]? = some (.cells #[.int .i64 who, .string text] 66) := by rw [heap_setCell_other _ (Ne.symm hpne), heap_setCell_other _ (Ne.symm hpne)]; exact H9X.out
    have hBb : B ≤ b := Nat.le_trans HB.out HBW.out
    have hmb : ((some b : Option Nat) = none ∨ ∃ b', some b = some b' ∧ w.heap.size ≤ b') ∧ ∀ w3, KW p (some b) w w3 → KW p none w w3 := ⟨.inr ⟨b, rfl, HBW.out⟩, fun _ h => ⟨h.os, h.tape, h.output, h.size, fun k hk hp _ => h.block k hk hp (fun e => by injection e with e; have := HBW.out; omega)⟩⟩
    generalize (X.setCell ⟨p, 3, none⟩ (.int .i64 t)).setCell ⟨p, 4, none⟩ (.bool true) = V at *
    clear x3 x4 y3 y4 ypl
    have hb9 : b ≠ p9 := by
      rintro rfl
      obtain ⟨-, -, es, ck, hb, -⟩ := hMV
      rw [h9V] at hb
      cases hb
    have hPer := Lib.hid (fun wz (hw : Ext V wz) => period_any p (some b) _ t wz ((hw.block _ (Rg.lt_of_heap hV)).trans hV) HH.out.ok.every HT.out)
    obtain ⟨per, hper⟩ : ∃ per, per = perF r.every t := ⟨_, rfl⟩
    have hPer2 : Hid (∀ wz, Ext V wz → Calls Try.prog 27 #[.pointer (some ⟨p, 0, none⟩), .int .i64 t] wz fun e w' => e = .returned (.int .i64 per) ∧ Ext wz w') := Lib.hid (fun wz hw => (hPer.out wz hw).mono fun _ _ ⟨a, b⟩ => ⟨by rw [a, hper], b ▸ Ext.refl _⟩)
    have HPE := Lib.hid hper
    obtain ⟨-, -, d2, -, -, -⟩ := Rl.cells_at hV
    have d8 : V.cell? ⟨p9, 0, none⟩ = some (.int .i64 who) := cell_of_row _ _ 0 _ _ _ h9V
    have d9 : V.cell? ⟨p9, 1, none⟩ = some (.string text) := cell_of_row _ _ 1 _ _ _ h9V
    have l1 := Rg.lt_of_heap hV
    have l9 := Rg.lt_of_heap h9V
    have KV := Lib.hid hV; have KM := Lib.hid hMV; have KK := Lib.hid hK; have KB := Lib.hid hmb; have KBB := Lib.hid hBb; have KBP := Lib.hid hbp
    clear hV hMV hK hmb hBb hbp h9V hPer hper c2 c3 c4 c5 q0 q1 f2 f3 f4 hpl hLen hmm qT
    refine Rr.wp_region [(0, .y), (1, .y), (2, .y), (3, .y), (4, .y), (5, .y), (6, .y), (7, .y)] (fun _ => (.cells #[] 29, Rg.ptr)) (by kernel_rfl) (by kernel_rfl) ?_
    (refine Rr.wr_y (by simp only [List.getElem?_toArray, List.getElem?_cons_succ, List.getElem?_cons_zero]; rfl) (by rfl) ?_
     apply Exists.intro
     refine ⟨fun wz hw _ => ?_, ?_⟩
     · have hcz := hw.cells.1
       go_simp
       (with_reducible exact Rg.up_value)
     simp only [Act.put, List.setIfInBounds_toArray, List.set_cons_zero, List.set_cons_succ])
    (refine Rr.wr_y (by simp only [List.getElem?_toArray, List.getElem?_cons_succ, List.getElem?_cons_zero]; rfl) (by rfl) ?_
     apply Exists.intro
     refine ⟨fun wz hw _ => ?_, ?_⟩
     · have hcz := hw.cells.1
       go_simp
       (with_reducible exact Rg.up_value)
     simp only [Act.put, List.setIfInBounds_toArray, List.set_cons_zero, List.set_cons_succ])
    (refine Rr.wr_y (by simp only [List.getElem?_toArray, List.getElem?_cons_succ, List.getElem?_cons_zero]; rfl) (by rfl) ?_
     apply Exists.intro
     refine ⟨fun wz hw _ => ?_, ?_⟩
     · have hcz := hw.cells.1
       go_simp
       (with_reducible exact Rg.up_value)
     simp only [Act.put, List.setIfInBounds_toArray, List.set_cons_zero, List.set_cons_succ])
    (refine Rr.wr_y (by simp only [List.getElem?_toArray, List.getElem?_cons_succ, List.getElem?_cons_zero]; rfl) (by rfl) ?_
     apply Exists.intro
     refine ⟨fun wz hw _ => ?_, ?_⟩
     · have hcz := hw.cells.1
       go_simp
       (with_reducible exact Rg.up_value)
     simp only [Act.put, List.setIfInBounds_toArray, List.set_cons_zero, List.set_cons_succ])
    (refine Rr.wr_y (by simp only [List.getElem?_toArray, List.getElem?_cons_succ, List.getElem?_cons_zero]; rfl) (by rfl) ?_
     apply Exists.intro
     refine ⟨fun wz hw _ => ?_, ?_⟩
     · have hcz := hw.cells.1
       go_simp
       (with_reducible exact Rg.up_value)
     simp only [Act.put, List.setIfInBounds_toArray, List.set_cons_zero, List.set_cons_succ])
    (refine Rr.wr_y (by simp only [List.getElem?_toArray, List.getElem?_cons_succ, List.getElem?_cons_zero]; rfl) (by rfl) ?_
     apply Exists.intro
     refine ⟨fun wz hw _ => ?_, ?_⟩
     · have hcz := hw.cells.1
       go_simp
       (with_reducible exact Rg.up_value)
     simp only [Act.put, List.setIfInBounds_toArray, List.set_cons_zero, List.set_cons_succ])
    (refine Rr.wr_y (by simp only [List.getElem?_toArray, List.getElem?_cons_succ, List.getElem?_cons_zero]; rfl) (by rfl) ?_
     apply Exists.intro
     refine ⟨fun wz hw _ => ?_, ?_⟩
     · have hcz := hw.cells.1
       go_simp
       (with_reducible exact Rg.up_value)
     simp only [Act.put, List.setIfInBounds_toArray, List.set_cons_zero, List.set_cons_succ])
    (refine Rr.wr_y (by simp only [List.getElem?_toArray, List.getElem?_cons_succ, List.getElem?_cons_zero]; rfl) (by rfl) ?_
     apply Exists.intro
     refine ⟨fun wz hw _ => ?_, ?_⟩
     · have hcz := hw.cells.1
       go_simp
       apply Rg.up_enter
       (with_reducible refine (hPer2.out _ hw).mono ?_)
       rintro e w3 ⟨rfl, hb3⟩
       exact ⟨rfl, hb3⟩
     simp only [Act.put, List.setIfInBounds_toArray, List.set_cons_zero, List.set_cons_succ])
    refine Rr.wr_nil ?_
    intro wy hy hh
    clear hh
    simp only [List.length_cons, List.length_nil, List.drop_succ_cons, List.drop_zero, Nat.reduceAdd]
    go_wp2_with (refine wpList_store rfl (.tmp 71) (.tmp 72) (.tmp 75) 54 rfl 66 3 keQ under54 b _ (by rfl) (KM.out.ext hy) ⟨who, text⟩ (by rfl) HQ.out (.int .i64 per) (by rfl) ?_; intro w3 hm3 hg3)
    go_ret
    rw [put_new HM.out, HPE.out] at hm3
    have hrow3 : w3.heap[p]? = some (.cells ((r.asked ⟨who, text⟩ t).cells (some b)) 56) := (hg3.block p (Nat.lt_of_lt_of_le l1 hy.size) (fun e => KBP.out (by injection e with e; exact e.symm))).trans ((hy.block _ l1).trans KV.out)
    refine ⟨rfl, some b, ⟨HH.out.at_, hrow3, ⟨KBB.out, hm3⟩, ⟨HH.out.ok.least, HH.out.ok.every, HT.out, ?_, ?_⟩⟩, KB.out.2 _ ((KK.out.trans (KW.of_ext hy)).grown hg3), by first | exact KB.out.1 | exact .inl rfl⟩
    · intro x hx
      rcases List.mem_append.1 hx with hx | hx
      · exact HH.out.ok.per x hx
      · rw [List.mem_singleton] at hx
        subst hx
        exact perF_ok HT.out
    · have := HN.out
      simp [Rl.asked]
      omega
  | some b =>
    go_upto_region 16 with (fail)
    have hV : ((((W.drewN nq).setCell ⟨p, 3, none⟩ (.int .i64 t)).setCell ⟨p, 4, none⟩ (.bool true))).heap[p]? = some (.cells (({ r with last := t, timed := true } : Rl).cells (some b)) 56) := by
      have h1 := heap_setCell_row (o := 3) (.int .i64 t) (show (W.drewN nq).heap[p]? = _ from HRP.out)
      have h2 := heap_setCell_row (o := 4) (.bool true) h1
      exact h2
    have hK : KW p (some b) w ((((W.drewN nq).setCell ⟨p, 3, none⟩ (.int .i64 t)).setCell ⟨p, 4, none⟩ (.bool true))) := ((KW.of_ext (HX.out.drewN nq)).setCell _).setCell _
    have hMb := HMP.out.2
    have hbp : b ≠ p := by
      rintro rfl
      obtain ⟨-, -, es, ck, hb, -⟩ := hMb
      rw [HRP.out] at hb
      cases hb
    have hMV : MP encQ OkQ ((((W.drewN nq).setCell ⟨p, 3, none⟩ (.int .i64 t)).setCell ⟨p, 4, none⟩ (.bool true))) b (mapL r.l) := hMb.of_block (by rw [heap_setCell_other _ hbp, heap_setCell_other _ hbp]; rfl)
    have h9V : ((((W.drewN nq).setCell ⟨p, 3, none⟩ (.int .i64 t)).setCell ⟨p, 4, none⟩ (.bool true))).heap[p9]? = some (.cells #[.int .i64 who, .string text] 66) := by rw [heap_setCell_other _ (Ne.symm hpne), heap_setCell_other _ (Ne.symm hpne)]; exact HR9.out
    have hBb : B ≤ b := HMP.out.1
    have hmb : ((some b : Option Nat) = some b ∨ ∃ b', some b = some b' ∧ w.heap.size ≤ b') ∧ ∀ w3, KW p (some b) w w3 → KW p (some b) w w3 := ⟨.inl rfl, fun _ h => h⟩
    generalize (((W.drewN nq).setCell ⟨p, 3, none⟩ (.int .i64 t)).setCell ⟨p, 4, none⟩ (.bool true)) = V at *
    have hb9 : b ≠ p9 := by
      rintro rfl
      obtain ⟨-, -, es, ck, hb, -⟩ := hMV
      rw [h9V] at hb
      cases hb
    have hPer := Lib.hid (fun wz (hw : Ext V wz) => period_any p (some b) _ t wz ((hw.block _ (Rg.lt_of_heap hV)).trans hV) HH.out.ok.every HT.out)
    obtain ⟨per, hper⟩ : ∃ per, per = perF r.every t := ⟨_, rfl⟩
    have hPer2 : Hid (∀ wz, Ext V wz → Calls Try.prog 27 #[.pointer (some ⟨p, 0, none⟩), .int .i64 t] wz fun e w' => e = .returned (.int .i64 per) ∧ Ext wz w') := Lib.hid (fun wz hw => (hPer.out wz hw).mono fun _ _ ⟨a, b⟩ => ⟨by rw [a, hper], b ▸ Ext.refl _⟩)
    have HPE := Lib.hid hper
    obtain ⟨-, -, d2, -, -, -⟩ := Rl.cells_at hV
    have d8 : V.cell? ⟨p9, 0, none⟩ = some (.int .i64 who) := cell_of_row _ _ 0 _ _ _ h9V
    have d9 : V.cell? ⟨p9, 1, none⟩ = some (.string text) := cell_of_row _ _ 1 _ _ _ h9V
    have l1 := Rg.lt_of_heap hV
    have l9 := Rg.lt_of_heap h9V
    have KV := Lib.hid hV; have KM := Lib.hid hMV; have KK := Lib.hid hK; have KB := Lib.hid hmb; have KBB := Lib.hid hBb; have KBP := Lib.hid hbp
    clear hV hMV hK hmb hBb hbp h9V hPer hper c2 c3 c4 c5 q0 q1 f2 f3 f4 hpl hLen hmm qT
    refine Rr.wp_region [(0, .y), (1, .y), (2, .y), (3, .y), (4, .y), (5, .y), (6, .y), (7, .y)] (fun _ => (.cells #[] 29, Rg.ptr)) (by kernel_rfl) (by kernel_rfl) ?_
    (refine Rr.wr_y (by simp only [List.getElem?_toArray, List.getElem?_cons_succ, List.getElem?_cons_zero]; rfl) (by rfl) ?_
     apply Exists.intro
     refine ⟨fun wz hw _ => ?_, ?_⟩
     · have hcz := hw.cells.1
       go_simp
       (with_reducible exact Rg.up_value)
     simp only [Act.put, List.setIfInBounds_toArray, List.set_cons_zero, List.set_cons_succ])
    (refine Rr.wr_y (by simp only [List.getElem?_toArray, List.getElem?_cons_succ, List.getElem?_cons_zero]; rfl) (by rfl) ?_
     apply Exists.intro
     refine ⟨fun wz hw _ => ?_, ?_⟩
     · have hcz := hw.cells.1
       go_simp
       (with_reducible exact Rg.up_value)
     simp only [Act.put, List.setIfInBounds_toArray, List.set_cons_zero, List.set_cons_succ])
    (refine Rr.wr_y (by simp only [List.getElem?_toArray, List.getElem?_cons_succ, List.getElem?_cons_zero]; rfl) (by rfl) ?_
     apply Exists.intro
     refine ⟨fun wz hw _ => ?_, ?_⟩
     · have hcz := hw.cells.1
       go_simp
       (with_reducible exact Rg.up_value)
     simp only [Act.put, List.setIfInBounds_toArray, List.set_cons_zero, List.set_cons_succ])
    (refine Rr.wr_y (by simp only [List.getElem?_toArray, List.getElem?_cons_succ, List.getElem?_cons_zero]; rfl) (by rfl) ?_
     apply Exists.intro
     refine ⟨fun wz hw _ => ?_, ?_⟩
     · have hcz := hw.cells.1
       go_simp
       (with_reducible exact Rg.up_value)
     simp only [Act.put, List.setIfInBounds_toArray, List.set_cons_zero, List.set_cons_succ])
    (refine Rr.wr_y (by simp only [List.getElem?_toArray, List.getElem?_cons_succ, List.getElem?_cons_zero]; rfl) (by rfl) ?_
     apply Exists.intro
     refine ⟨fun wz hw _ => ?_, ?_⟩
     · have hcz := hw.cells.1
       go_simp
       (with_reducible exact Rg.up_value)
     simp only [Act.put, List.setIfInBounds_toArray, List.set_cons_zero, List.set_cons_succ])
    (refine Rr.wr_y (by simp only [List.getElem?_toArray, List.getElem?_cons_succ, List.getElem?_cons_zero]; rfl) (by rfl) ?_
     apply Exists.intro
     refine ⟨fun wz hw _ => ?_, ?_⟩
     · have hcz := hw.cells.1
       go_simp
       (with_reducible exact Rg.up_value)
     simp only [Act.put, List.setIfInBounds_toArray, List.set_cons_zero, List.set_cons_succ])
    (refine Rr.wr_y (by simp only [List.getElem?_toArray, List.getElem?_cons_succ, List.getElem?_cons_zero]; rfl) (by rfl) ?_
     apply Exists.intro
     refine ⟨fun wz hw _ => ?_, ?_⟩
     · have hcz := hw.cells.1
       go_simp
       (with_reducible exact Rg.up_value)
     simp only [Act.put, List.setIfInBounds_toArray, List.set_cons_zero, List.set_cons_succ])
    (refine Rr.wr_y (by simp only [List.getElem?_toArray, List.getElem?_cons_succ, List.getElem?_cons_zero]; rfl) (by rfl) ?_
     apply Exists.intro
     refine ⟨fun wz hw _ => ?_, ?_⟩
     · have hcz := hw.cells.1
       go_simp
       apply Rg.up_enter
       (with_reducible refine (hPer2.out _ hw).mono ?_)
       rintro e w3 ⟨rfl, hb3⟩
       exact ⟨rfl, hb3⟩
     simp only [Act.put, List.setIfInBounds_toArray, List.set_cons_zero, List.set_cons_succ])
    refine Rr.wr_nil ?_
    intro wy hy hh
    clear hh
    simp only [List.length_cons, List.length_nil, List.drop_succ_cons, List.drop_zero, Nat.reduceAdd]
    go_wp2_with (refine wpList_store rfl (.tmp 71) (.tmp 72) (.tmp 75) 54 rfl 66 3 keQ under54 b _ (by rfl) (KM.out.ext hy) ⟨who, text⟩ (by rfl) HQ.out (.int .i64 per) (by rfl) ?_; intro w3 hm3 hg3)
    go_ret
    rw [put_new HM.out, HPE.out] at hm3
    have hrow3 : w3.heap[p]? = some (.cells ((r.asked ⟨who, text⟩ t).cells (some b)) 56) := (hg3.block p (Nat.lt_of_lt_of_le l1 hy.size) (fun e => KBP.out (by injection e with e; exact e.symm))).trans ((hy.block _ l1).trans KV.out)
    refine ⟨rfl, some b, ⟨HH.out.at_, hrow3, ⟨KBB.out, hm3⟩, ⟨HH.out.ok.least, HH.out.ok.every, HT.out, ?_, ?_⟩⟩, KB.out.2 _ ((KK.out.trans (KW.of_ext hy)).grown hg3), by first | exact KB.out.1 | exact .inl rfl⟩
    · intro x hx
      rcases List.mem_append.1 hx with hx | hx
      · exact HH.out.ok.per x hx
      · rw [List.mem_singleton] at hx
        subst hx
        exact perF_ok HT.out
    · have := HN.out
      simp [Rl.asked]
      omega
end Go.Proofs.Ytbeoihjfjkbfhaa
