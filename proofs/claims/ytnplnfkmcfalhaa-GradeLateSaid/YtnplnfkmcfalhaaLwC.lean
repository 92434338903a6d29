/-
  GradeLate, walked. Conditions: the arguments read as numbers.
-/
import Derived.Test.YtnplnfkmcfalhaaGdR
import Derived.Test.YtnplnfkmcfalhaaGdQ
namespace Go.Proofs.Ytnplnfkmcfalhaa
set_option linter.unusedVariables false
set_option linter.unusedSimpArgs false
open Go.RowKit

/-- A book that was made since a world, apart from a block. -/
def BQ (w0 w : World) (p : Nat) (b : Bk) (o : Option Nat) : Prop := ∃ F, BR w p b F ∧ (∀ k ∈ F, w0.heap.size ≤ k) ∧ (∀ k, o = some k → k ∉ F) ∧ Ext w0 w
theorem BQ.bx {w0 w : World} {p : Nat} {b : Bk} {o : Option Nat} (h : BQ w0 w p b o) : BX w0 w p b := by
  obtain ⟨F, h1, h2, -, h3⟩ := h
  exact ⟨F, h1, h2, h3⟩
theorem BQ.ext {w0 w w' : World} {p : Nat} {b : Bk} {o : Option Nat} (h : BQ w0 w p b o) (e : Ext w w') : BQ w0 w' p b o := by
  obtain ⟨F, h1, h2, h3, h4⟩ := h
  exact ⟨F, h1.ext e, h2, h3, h4.trans e⟩
theorem BX.bq {w0 w : World} {p : Nat} {b : Bk} (h : BX w0 w p b) {q : Nat} (hq : w.heap.size ≤ q) : BQ w0 w p b (some q) := by
  obtain ⟨F, h1, h2, h3⟩ := h
  exact ⟨F, h1, h2, fun k hk hm => by injection hk with hk; subst hk; have := h1.lt _ hm; omega, h3⟩
theorem BQ.gp {w0 w w' : World} {p : Nat} {b' : Bk} {F : List Nat} {o : Option Nat} (h2 : ∀ k ∈ F, w0.heap.size ≤ k) (h3 : ∀ k, o = some k → k ∉ F ∧ k < w.heap.size) (h4 : Ext w0 w) (g : GP F w p b' w') :
    BQ w0 w' p b' o ∧ (∀ k, o = some k → w'.heap[k]? = w.heap[k]?) := by
  obtain ⟨F', g1, g2, g3⟩ := g
  refine ⟨⟨F', g1, fun k hk => ?_, fun k hk hm => ?_, Below.trans h4 (g3.below h2 h4.size)⟩, fun k hk => g3.block k (h3 k hk).2 (h3 k hk).1⟩
  · rcases g2 k hk with h | h
    · exact h2 k h
    · have := h4.size; omega
  · rcases g2 k hm with h | h
    · exact (h3 k hk).1 h
    · have := (h3 k hk).2; omega
theorem give_q {w0 w : World} {p : Nat} {b : Bk} {g : Gd} {o : Option Nat} (h : BQ w0 w p b o) (ho : ∀ k, o = some k → k < w.heap.size) (hg : g.ok) (hol : b.old.length < 100000) :
    Calls Try.prog 11 #[.pointer (some ⟨p, 0, none⟩), g.v] w fun e w' => e = .returned (.int .i64 (giveR b g).1) ∧ BQ w0 w' p (giveR b g).2 o ∧ (∀ k, o = some k → w'.heap[k]? = w.heap[k]?) ∧ Kc w w' ∧ w.heap.size ≤ w'.heap.size := by
  obtain ⟨F, h1, h2, h3, h4⟩ := h
  refine (Give_any p b F g hg w h1 hol).mono fun e w' ⟨he, hg⟩ => ?_
  obtain ⟨k1, k2⟩ := BQ.gp h2 (fun k hk => ⟨h3 k hk, ho k hk⟩) h4 hg
  exact ⟨he, k1, k2, h1.kc hg.choose_spec.2.2, hg.choose_spec.2.2.size⟩
theorem final_q {w0 w : World} {p : Nat} {b : Bk} {bid : Int} {o : Option Nat} (h : BQ w0 w p b o) (ho : ∀ k, o = some k → k < w.heap.size) (hb : OkI bid) :
    Calls Try.prog 12 #[.pointer (some ⟨p, 0, none⟩), .int .i64 bid] w fun e w' => e = .returned (.int .i64 (finE b bid)) ∧ BQ w0 w' p (finB b bid) o ∧ (∀ k, o = some k → w'.heap[k]? = w.heap[k]?) ∧ Kc w w' ∧ w.heap.size ≤ w'.heap.size := by
  obtain ⟨F, h1, h2, h3, h4⟩ := h
  refine (Final_any p b F bid hb w h1).mono fun e w' ⟨he, hg⟩ => ?_
  obtain ⟨k1, k2⟩ := BQ.gp h2 (fun k hk => ⟨h3 k hk, ho k hk⟩) h4 hg
  exact ⟨he, k1, k2, h1.kc hg.choose_spec.2.2, hg.choose_spec.2.2.size⟩
theorem changed_q {w0 w : World} {p : Nat} {b : Bk} {o : Option Nat} (h : BQ w0 w p b o) (hl : b.old.length ≤ 100000) :
    Calls Try.prog 15 #[.pointer (some ⟨p, 0, none⟩)] w fun e w' => ∃ r, e = .returned r ∧ SR Gd.cs 6 w' r b.old ∧ BQ w0 w' p b o ∧ Ext w w' := by
  obtain ⟨F, h1, h2, h3, h4⟩ := h
  exact (Changed_any p b F w h1 hl).mono fun _ _ ⟨r, he, hr, _, hx⟩ => ⟨r, he, hr, ⟨F, h1.ext hx, h2, h3, h4.trans hx⟩, hx⟩
/-- A new book, as a value. -/
def NB (n0 : Nat) (b : Bk) (v : Value) (W : World) : Prop := ∃ p F, v = .pointer (some ⟨p, 0, none⟩) ∧ BR W p b F ∧ ∀ k ∈ F, n0 ≤ k
theorem NB.ext {n0 : Nat} {b : Bk} {v : Value} {w w' : World} (h : NB n0 b v w) (e : Ext w w') : NB n0 b v w' := by
  obtain ⟨p, F, h1, h2, h3⟩ := h
  exact ⟨p, F, h1, h2.ext e, h3⟩
def RBv (B : Nat) (L : List Int) (C : List Cr) (D : List Dy) (v : Value) (W : World) : Prop := ∃ p, v = .pointer (some ⟨p, 0, none⟩) ∧ RB B W p L C D
theorem RBv.ext {B : Nat} {L : List Int} {C : List Cr} {D : List Dy} {v : Value} {w w' : World} (h : RBv B L C D v w) (e : Ext w w') : RBv B L C D v w' := by
  obtain ⟨p, h1, h2⟩ := h
  exact ⟨p, h1, h2.ext e⟩
theorem giveR_dut (b : Bk) (g : Gd) : (giveR b g).2.dut = b.dut ∧ (giveR b g).2.old.length ≤ b.old.length + 1 := by
  rcases give_cases b g with ⟨k, -, h⟩ | ⟨h, -⟩
  · rw [h]; exact ⟨rfl, by simp⟩
  · rw [h]
    refine ⟨rfl, ?_⟩
    show (b.put g).old.length ≤ _
    cases ho : b.gr g.pl with
    | none => rw [put_old0 b g ho]; omega
    | some o => rw [put_old b g ho, List.length_append]; split <;> simp
theorem finB_dut (b : Bk) (i : Int) : (finB b i).dut = b.dut ∧ (finB b i).old = b.old := by
  unfold finB
  split <;> exact ⟨rfl, rfl⟩

theorem RN.ok {n : Nat} {w : World} {v : Value} {ls : List (List Int)} (h : RN n w v ls) : ∀ z ∈ ls, ∀ j, OkI (z.getD j 0) := by
  obtain ⟨A, cap, -, -, h3, -⟩ := h
  intro z hz j
  rw [List.getD_eq_getElem?_getD]
  rcases Nat.lt_or_ge j z.length with hj | hj
  · rw [List.getElem?_eq_getElem hj]
    exact (h3 z hz).2 _ (List.getElem_mem _)
  · rw [List.getElem?_eq_none hj]
    exact okI_small (by decide)
theorem caL_ok {w : World} {v : Value} {ls : List Int} (h : IRd w v ls) (n : Nat) : ∀ l ∈ (ls.take n).map caL1, OkI l.id := by
  obtain ⟨A, cap, -, -, h3, -⟩ := h
  intro l hl
  obtain ⟨z, hz, rfl⟩ := List.mem_map.1 hl
  exact h3 z (List.mem_of_mem_take hz)
theorem caC_ok {w : World} {v : Value} {ls : List (List Int)} {k : Nat} (h : RN k w v ls) (n : Nat) : ∀ c ∈ (ls.take n).map caC1, c.ok := by
  intro c hc
  obtain ⟨z, hz, rfl⟩ := List.mem_map.1 hc
  have := h.ok z (List.mem_of_mem_take hz)
  exact ⟨nameB_ok _, this 1, this 2, this 3⟩
theorem caD_ok {w : World} {v : Value} {ls : List (List Int)} {k : Nat} (h : RN k w v ls) (n : Nat) : ∀ d ∈ (ls.take n).map caD1, OkD d := by
  intro c hc
  obtain ⟨z, hz, rfl⟩ := List.mem_map.1 hc
  have := h.ok z (List.mem_of_mem_take hz)
  exact ⟨this 0, this 1⟩

theorem AG.give {bid : Int} {b0 b : Bk} (h : AG bid b0 b) (g : Gd) : AG bid b0 (giveR b g).2 := by
  rcases give_cases b g with ⟨k, -, e⟩ | ⟨e, hg⟩
  · rw [e]; exact h
  · rw [e]; exact h.put hg
theorem AG.late {bid : Int} {b0 b : Bk} (h : AG bid b0 b) {g : Gd} (hg : g.bid = bid) : (giveR b g).1 ≠ 0 ∧ (giveR b g).2 = b := by
  rcases give_cases b g with ⟨k, hk, e⟩ | ⟨e, hf⟩
  · rw [e]; exact ⟨hk, rfl⟩
  · rw [hg, h.fin] at hf; cases hf
theorem Grade_e (B p : Nat) (L : List Int) (C : List Cr) (D : List Dy) (a0 a1 a2 a3 a4 a5 a6 a7 : Int) (w : World) (h : RB B w p L C D)
    (hL : L.length ≤ 3) (hC : C.length ≤ 4) (hD : D.length ≤ 9) (hLo : ∀ x ∈ L, OkI x) (hDo : ∀ d ∈ D, OkD d) (h1 : OkI a1) (h2 : OkI a2) (h3 : OkI a3) (h4 : OkI a4) (h5 : OkI a5) (h6 : OkI a6) (h7 : OkI a7) :
    Calls Try.prog 14 #[.agg #[.int .i64 a0, .int .i64 a1, .int .i64 a2, .int .i64 a3, .int .i64 a4, .int .i64 a5, .int .i64 a6, .int .i64 a7], .pointer (some ⟨p, 0, none⟩)] w fun e w' =>
      ∃ ga gb gl gn gN gt, e = .returned (.agg #[.int .i64 ga, .int .i64 gb, .int .i64 gl, .string gn, .int .i64 gN, .int .i64 gt]) ∧ (Gd.mk ga gb gl gn gN gt).ok ∧ Ext w w' :=
  (Grade_any B p L C D a0 a1 a2 a3 a4 a5 a6 a7 w h hL hC hD hLo hDo h1 h2 h3 h4 h5 h6 h7).mono fun _ _ ⟨⟨ga, gb, gl, gn, gN, gt⟩, he, hg, hx⟩ => ⟨ga, gb, gl, gn, gN, gt, he, hg, hx⟩
theorem BX.row {w0 w w' : World} {p : Nat} {b : Bk} (h : BX w0 w p b) (e : Ext w w') {E sz n : Nat} {v : Value} {xs : List Value} (hr : w'.ownsRow w.heap.size E sz v n xs) : BQ w0 w' p b v.ownBlock := by
  obtain ⟨F, h1, h2, h3⟩ := h
  exact ⟨F, h1.ext e, h2, fun k hk hm => by have := (hr.lt k hk).1; have := h1.lt k hm; omega, h3.trans e⟩
theorem New_z (n0 : Nat) (ls : List Lt) (cs : List Cr) (ds : List Dy) (vl vc vd : Value) (w : World) (hn : n0 ≤ w.heap.size) (hl : SR Lt.cs 2 w vl ls) (hc : SR Cr.cs 5 w vc cs) (hd : SR Dy.cs 2 w vd ds)
    (hlo : ∀ l ∈ ls, OkI l.id) (hco : ∀ c ∈ cs, c.ok) (hdo : ∀ d ∈ ds, OkD d) (hdl : ds.length ≤ 1000) :
    Calls Try.prog 8 #[.agg (tenC vl vc), vd] w fun e w' => ∃ v, e = .returned v ∧ Ext w w' ∧ NB n0 (newB ls cs ds) v w' :=
  (New_any ls cs ds vl vc vd w hl hc hd hlo hco hdo hdl).mono fun _ _ ⟨p, F, he, hb, hF, hx⟩ => ⟨_, he, hx, p, F, rfl, hb, fun k hk => Nat.le_trans hn (hF k hk)⟩
theorem refNew_z (n0 : Nat) (ls : List Lt) (cs : List Cr) (ds : List Dy) (vl vc vd : Value) (w : World) (hn : n0 ≤ w.heap.size) (hl : SR Lt.cs 2 w vl ls) (hc : SR Cr.cs 5 w vc cs) (hd : SR Dy.cs 2 w vd ds)
    (hlo : ∀ l ∈ ls, OkI l.id) (hll : ls.length ≤ 1000) (hcl : cs.length ≤ 1000) (hdl : ds.length ≤ 1000) :
    Calls Try.prog 9 #[.agg (tenC vl vc), vd] w fun e w' => ∃ v, e = .returned v ∧ Ext w w' ∧ RBv n0 (lotsW ls) (crisW cs) (dutsW ds) v w' :=
  (refNew_any ls cs ds vl vc vd w hl hc hd hlo hll hcl hdl).mono fun _ _ ⟨p, he, hr, hx⟩ => ⟨_, he, hx, p, rfl, by
    obtain ⟨a, b, c, h0, h1, h2, h3, h4⟩ := hr
    exact ⟨a, b, c, Nat.le_trans hn h0, h1, row_base h2 hn, row_base h3 hn, row_base h4 hn⟩⟩

set_option maxRecDepth 100000 in
set_option maxHeartbeats 4000000 in
theorem late_walk (v0 v1 v2 vn va : Value) (ls ns : List Int) (cs ds ac : List (List Int)) (w : World) (h0 : IRd w v0 ls) (h1 : RN 4 w v1 cs) (h2 : RN 2 w v2 ds) (h3 : IRd w vn ns) (h4 : RN 8 w va ac) :
    Calls Try.prog 3 #[.agg #[v0, v1, v2], vn, va] w fun e w' => e = .returned (.bool true) ∧ Ext w w' := by
  obtain ⟨an, cn, rfl, hnl, -⟩ := id h3
  obtain ⟨aa, ca, rfl, hal⟩ := h4.form
  have hal' : (ac.length : Int) ≤ 9223372036854775807 := by omega
  have H0 := Lib.hid h0; have H1 := Lib.hid h1; have H2 := Lib.hid h2; have H3 := Lib.hid h3; have H4 := Lib.hid h4
  clear h0 h1 h2 h3 h4
  go_enter Try.func3, Try.ntmps3
  go_upto_region 2 with (go_at_call 6; (with_reducible refine (sanity_any _).mono ?_); rintro e w1 ⟨rfl, hx1⟩)
  have hcb := keep_heap hx1 (heap_alloc_new w (.cells #[v0, v1, v2] 26))
  have hx1' : Ext w w1 := (Ext.alloc (Ext.refl _) _).trans hx1
  have hM := Make_any ls cs ds v0 v1 v2 w1 (H0.out.ext hx1') (H1.out.ext hx1') (H2.out.ext hx1')
  have hLO := caL_ok H0.out 3
  have hCO := caC_ok H1.out 4
  have hDO := caD_ok H2.out 9
  have hLl : ((ls.take 3).map caL1).length ≤ 3 := by simp; omega
  have hCl : ((cs.take 4).map caC1).length ≤ 4 := by simp; omega
  have hDl : ((ds.take 9).map caD1).length ≤ 9 := by simp; omega
  obtain ⟨LT, hLT⟩ : ∃ LT, LT = (ls.take 3).map caL1 := ⟨_, rfl⟩
  obtain ⟨CT, hCT⟩ : ∃ CT, CT = (cs.take 4).map caC1 := ⟨_, rfl⟩
  obtain ⟨DT, hDT⟩ : ∃ DT, DT = (ds.take 9).map caD1 := ⟨_, rfl⟩
  rw [← hLT] at hLO hLl hM
  rw [← hCT] at hCO hCl hM
  rw [← hDT] at hDO hDl hM
  clear hLT hCT hDT
  have HM := Lib.hid hM; clear hM
  have HX1 := Lib.hid hx1'
  have HCB := Lib.hid hcb
  clear hcb hx1 hx1'
  go_upto_region 3 with (first
    | (refine wpList_load_row (hgd := rfl) 26 (.tmp 3) rfl w.heap.size (by rfl) 26 _ _ _ HCB.out Try.underlying26 rfl (by kernel_rfl) ?_)
    | (go_at_call 7; (with_reducible refine HM.out.mono ?_); rintro e w2 ⟨vl, vc, vd, rfl, hx2, hr1, hr2, hr3⟩; obtain ⟨lb, lc, rfl⟩ := (SR.of_row (cs := Lt.cs) (fun _ => rfl) hr1 (by omega)).form; obtain ⟨cb, cc, rfl⟩ := (SR.of_row (cs := Cr.cs) (fun _ => rfl) hr2 (by omega)).form; obtain ⟨db, dc, rfl⟩ := (SR.of_row (cs := Dy.cs) (fun _ => rfl) hr3 (by omega)).form)
    | (refine wpList_store_row (hgd := rfl) 42 (.tmp 8) (.tmp 26) rfl w2.heap.size (by rfl) (tenC _ _) (by rfl) (tenC nilV nilV) 42 (heap_alloc_new w2 _) (by rfl) (by kernel_rfl) (ten_one _ _ (by rfl) (by rfl)) ?_))
  obtain ⟨W3, hW3⟩ : ∃ W3, W3 = (w2.alloc (.cells (tenC nilV nilV) 42)).setRow w2.heap.size (tenC (.slice lb LT.length lc) (.slice cb CT.length cc)) := ⟨_, rfl⟩
  have hT3 : W3.heap[w2.heap.size]? = some (.cells (tenC (.slice lb LT.length lc) (.slice cb CT.length cc)) 42) := by rw [hW3]; exact setRow_heap _ _ _ _ 42 _ (heap_alloc_new w2 _)
  have hx3 : Ext w2 W3 := by rw [hW3]; exact below_setRow (Ext.alloc (Ext.refl _) _) (Nat.le_refl _) _
  change Code.wp _ _ _ _ ((w2.alloc (.cells (tenC nilV nilV) 42)).setRow w2.heap.size (tenC (.slice lb LT.length lc) (.slice cb CT.length cc)))
  rw [← hW3]
  obtain ⟨pt, hpt⟩ : ∃ pt, pt = w2.heap.size := ⟨_, rfl⟩
  rw [← hpt] at hT3 ⊢
  have HX3 := Lib.hid ((HX1.out.trans hx2).trans hx3)
  have HR1 := Lib.hid (SR.of_row (cs := Lt.cs) (fun _ => rfl) (row_ext hr1 hx3) (by omega))
  have HR2 := Lib.hid (SR.of_row (cs := Cr.cs) (fun _ => rfl) (row_ext hr2 hx3) (by omega))
  have HR3 := Lib.hid (SR.of_row (cs := Dy.cs) (fun _ => rfl) (row_ext hr3 hx3) (by omega))
  have HT3 := Lib.hid hT3; have HLO := Lib.hid hLO; have HCO := Lib.hid hCO; have HDO := Lib.hid hDO
  clear hW3 hT3 hpt hx2 hx3 hr1 hr2 hr3 HX1 HCB HM hLO hCO hDO H0 H1 H2
  by_cases hd0 : DT = []
  · go_wp2_with (fail)
    go_ret
    exact ⟨rfl, HX3.out⟩
  · have hdp : 0 < DT.length := List.length_pos_iff.2 hd0
    have hdz : ¬ (DT.length : Int) = 0 := by omega
    go_upto_region 5 with (fail)
    refine Rr.wp_region [(0, .y), (1, .y), (3, .y), (4, .y), (2, .z), (5, .z)] (fun _ => (.cells #[] 29, Rg.ptr)) (by kernel_rfl) (by kernel_rfl) ?_
    (refine Rr.wr_y (by simp only [List.getElem?_toArray, List.getElem?_cons_succ, List.getElem?_cons_zero]; rfl) (by rfl) ?_
     apply Exists.intro
     refine ⟨fun wz hw _ => ?_, ?_⟩
     · have hcz := hw.cells.1
       exact up_row (by rfl) ((hw.block _ (Rg.lt_of_heap HT3.out)).trans HT3.out) Try.underlying42 (by kernel_rfl)
     simp only [Act.put, List.setIfInBounds_toArray, List.set_cons_zero, List.set_cons_succ])
    (refine Rr.wr_y (by simp only [List.getElem?_toArray, List.getElem?_cons_succ, List.getElem?_cons_zero]; rfl) (by rfl) ?_
     apply Exists.intro
     refine ⟨fun wz hw _ => ?_, ?_⟩
     · have hcz := hw.cells.1
       go_simp
       (with_reducible exact Rg.up_value)
     simp only [Act.put, List.setIfInBounds_toArray, List.set_cons_zero, List.set_cons_succ])
    (refine Rr.wr_y (by simp only [List.getElem?_toArray, List.getElem?_cons_succ, List.getElem?_cons_zero]; rfl) (by rfl) ?_
     apply Exists.intro
     refine ⟨fun wz hw _ => ?_, ?_⟩
     · have hcz := hw.cells.1
       exact up_row (by rfl) ((hw.block _ (Rg.lt_of_heap HT3.out)).trans HT3.out) Try.underlying42 (by kernel_rfl)
     simp only [Act.put, List.setIfInBounds_toArray, List.set_cons_zero, List.set_cons_succ])
    (refine Rr.wr_y (by simp only [List.getElem?_toArray, List.getElem?_cons_succ, List.getElem?_cons_zero]; rfl) (by rfl) ?_
     apply Exists.intro
     refine ⟨fun wz hw _ => ?_, ?_⟩
     · have hcz := hw.cells.1
       go_simp
       (with_reducible exact Rg.up_value)
     simp only [Act.put, List.setIfInBounds_toArray, List.set_cons_zero, List.set_cons_succ])
    refine Rr.wr_z (NB W3.heap.size (newB LT CT DT)) (by simp only [List.getElem?_toArray, List.getElem?_cons_succ, List.getElem?_cons_zero]; rfl) (by rfl) (fun v w1 w2 h e => by first | exact Rd.ext e h | exact h.ext e) (fun wz hw hh => ?_) (fun u => ?_)
    · have hcz := hw.cells.1
      go_simp
      apply Rr.upR_enter
      (with_reducible refine (New_z W3.heap.size LT CT DT _ _ _ wz hw.size (HR1.out.ext hw) (HR2.out.ext hw) (HR3.out.ext hw) HLO.out HCO.out HDO.out (by omega)).mono ?_)
      rintro e w3 ⟨v3, rfl, hx3, hr3⟩
      exact ⟨v3, rfl, hx3, hr3⟩
    simp only [Act.put, List.setIfInBounds_toArray, List.set_cons_zero, List.set_cons_succ]
    refine Rr.wr_z (RBv W3.heap.size (lotsW LT) (crisW CT) (dutsW DT)) (by simp only [List.getElem?_toArray, List.getElem?_cons_succ, List.getElem?_cons_zero]; rfl) (by rfl) (fun v w1 w2 h e => by first | exact Rd.ext e h | exact h.ext e) (fun wz hw hh => ?_) (fun u => ?_)
    · have hcz := hw.cells.1
      go_simp
      apply Rr.upR_enter
      (with_reducible refine (refNew_z W3.heap.size LT CT DT _ _ _ wz hw.size (HR1.out.ext hw) (HR2.out.ext hw) (HR3.out.ext hw) HLO.out (by omega) (by omega) (by omega)).mono ?_)
      rintro e w3 ⟨v3, rfl, hx3, hr3⟩
      exact ⟨v3, rfl, hx3, hr3⟩
    simp only [Act.put, List.setIfInBounds_toArray, List.set_cons_zero, List.set_cons_succ]
    refine Rr.wr_nil ?_
    intro W4 hx4 hh
    obtain ⟨pw, hpw, hrb⟩ := hh _ List.mem_cons_self
    obtain ⟨pb, F, hpb, hbr, hF⟩ := hh _ (List.mem_cons_of_mem _ List.mem_cons_self)
    subst hpw hpb
    simp only [List.length_cons, List.length_nil, List.drop_succ_cons, List.drop_zero, Nat.reduceAdd]
    have HRB := Lib.hid hrb
    obtain ⟨hLo, hLl2⟩ := lotsW_ok HLO.out
    obtain ⟨hCo, hCl2⟩ := crisW_ok HCO.out
    obtain ⟨hDo, hDl2⟩ := dutsW_ok HDO.out
    have hL3 : (lotsW LT).length ≤ 3 := by omega
    have hC3 : (crisW CT).length ≤ 4 := by omega
    have hD3 : (dutsW DT).length ≤ 9 := by omega
    have HLo := Lib.hid hLo; have HCo := Lib.hid hCo; have HDo := Lib.hid hDo
    generalize lotsW LT = L at *
    generalize crisW CT = C at *
    generalize dutsW DT = D at *
    obtain ⟨bd, rfl, hcell⟩ := row_at (HR3.out.ext hx4) 0 hdp
    have r1 := hcell 1 _ rfl
    have hbl := World.block_lt_of_cell? W4 _ r1
    have HHAS : Hid (∀ i, i = DT[0].bid → hasA (newB LT CT DT) i) := Lib.hid fun i hi => ⟨DT[0].ass, by
      show DT.contains ⟨DT[0].ass, i⟩ = true
      rw [hi, List.contains_iff_mem]
      exact List.getElem_mem _⟩
    have HOB := Lib.hid (HDO.out _ (List.getElem_mem hdp)).2
    clear hcell hh hLo hLl2 hCo hCl2 hDo hDl2
    generalize DT[0].bid = bid at *
    have HBX : Hid (BX w W4 pb (newB LT CT DT)) := Lib.hid ⟨F, hbr, fun k hk => Nat.le_trans HX3.out.size (hF k hk), HX3.out.trans hx4⟩
    clear hbr hF hrb
    have HX4 := Lib.hid hx4
    have HHAS2 := Lib.hid (HHAS.out bid rfl)
    clear hx4 HR1 HR2 HT3 HLO HCO HHAS
    have HOLD : Hid ((newB LT CT DT).old.length = 0) := Lib.hid rfl
    generalize newB LT CT DT = b0 at *
    simp only [Nat.zero_mul, Nat.zero_add] at r1
    have HWH := fun wz (hz : Ext W4 wz) => Whole_any W3.heap.size pw L C D bid _ ns wz (HRB.out.ext hz) (H3.out.ext ((HX3.out.trans HX4.out).trans hz)) hL3 hC3 hD3 HLo.out HCo.out HDo.out HOB.out
    have HWH := Lib.hid HWH
    go_upto_region 8 with (go_at_call 10; (with_reducible refine (HWH.out _ (Ext.refl _)).mono ?_); rintro e w5 ⟨rv, gs, rfl, hrow5, hwi, hgl, hx5⟩; obtain ⟨rb, rc, rfl⟩ := (SR.of_row (cs := Gd.cs) gd_len hrow5 (by omega)).form)
    clear hbl r1
    have HBQ := Lib.hid (HBX.out.row hx5 hrow5)
    have HROW := Lib.hid hrow5
    have HRB5 := Lib.hid (HRB.out.ext hx5)
    have HWI := Lib.hid hwi
    have HX5 := Lib.hid hx5
    clear hrow5 hwi HBX hx5
    go_loopw [47] (fun k wr => ∃ (i : Nat) (b : Bk), k = .int .i64 i ∧ i ≤ gs.length ∧ BQ w wr pb b (Value.slice rb gs.length rc).ownBlock ∧ wr.ownsRow W4.heap.size 55 6 (.slice rb gs.length rc) gs.length (gs.flatMap Gd.cs) ∧ Hid (b.dut = b0.dut) ∧ b.old.length ≤ i ∧ RB W3.heap.size wr pw L C D) (fun k _ => gs.length - (iof k).toNat)
    case atStart => exact ⟨0, b0, rfl, Nat.zero_le _, HBQ.out, HROW.out, Lib.hid rfl, by rw [HOLD.out]; exact Nat.le_refl _, HRB5.out⟩
    case round =>
      obtain ⟨i, b, rfl, hi, hbq, hrow, HDU, hol, hrb⟩ := hrel
      by_cases hil : i < gs.length
      · obtain ⟨qb, rfl, hcell⟩ := row_at (SR.of_row (cs := Gd.cs) gd_len hrow (by omega)) i hil
        have c0 := hcell 0 _ rfl
        have c1 := hcell 1 _ rfl
        have c2 := hcell 2 _ rfl
        have c3 := hcell 3 _ rfl
        have c4 := hcell 4 _ rfl
        have c5 := hcell 5 _ rfl
        have HGO := Lib.hid (HWI.out.2 _ (List.getElem_mem hil)).1
        clear hcell
        generalize gs[i] = g at *
        obtain ⟨ga, gb, gl, gn, gN, gt⟩ := g
        simp only [Nat.add_zero] at c0 c1 c2 c3 c4 c5
        go_upto_region 10 with (fail)
        have hxa : Ext wr (wr.alloc (.cells #[.int .i64 ga, .int .i64 gb, .int .i64 gl, .string gn, .int .i64 gN, .int .i64 gt] 55)) := Ext.alloc (Ext.refl _) _
        have hq := heap_alloc_new wr (.cells #[.int .i64 ga, .int .i64 gb, .int .i64 gl, .string gn, .int .i64 gN, .int .i64 gt] 55)
        have hbq6 := hbq.ext hxa
        have hrow6 := row_ext hrow hxa
        have hrb6 := hrb.ext hxa
        obtain ⟨qv, hqv⟩ : ∃ qv, qv = wr.heap.size := ⟨_, rfl⟩
        rw [← hqv] at hq ⊢
        clear c0 c1 c2 c3 c4 c5 hbq hrow hrb hxa hqv
        generalize wr.alloc (.cells #[.int .i64 ga, .int .i64 gb, .int .i64 gl, .string gn, .int .i64 gN, .int .i64 gt] 55) = w6 at *
        have HQ := Lib.hid hq
        have HR6 := Lib.hid hrow6; have HB6 := Lib.hid hrb6
        have HG := Lib.hid (give_q (g := ⟨ga, gb, gl, gn, gN, gt⟩) hbq6 (fun k hk => (hrow6.lt k hk).2) HGO.out (by omega))
        have hgd := giveR_dut b ⟨ga, gb, gl, gn, gN, gt⟩
        generalize (giveR b ⟨ga, gb, gl, gn, gN, gt⟩).1 = ge at *
        generalize (giveR b ⟨ga, gb, gl, gn, gN, gt⟩).2 = b' at *
        have HGD := Lib.hid hgd
        simp only [Gd.v] at HG
        clear hq hbq6 hrow6 hrb6 hgd
        go_wp2_with (first
          | (refine wpList_load_row (hgd := rfl) 55 (.tmp 14) rfl qv (by rfl) 55 _ _ _ HQ.out Try.underlying55 rfl (by kernel_rfl) ?_)
          | (go_at_call 11; (with_reducible refine HG.out.mono ?_); rintro e w7 ⟨rfl, hb7, hk7, hc7, hs7⟩))
        exact ⟨⟨i + 1, b', by simp, by omega, hb7, row_of_block HR6.out hk7, Lib.hid (HGD.out.1.trans HDU.out), by have := HGD.out.2; omega, HB6.out.kc hc7⟩, by simp [iof]; omega⟩
      · obtain rfl : i = gs.length := by omega
        have HFQ := Lib.hid (final_q (bid := bid) hbq (fun k hk => (hrow.lt k hk).2) HOB.out)
        have HRB6 := Lib.hid hrb
        clear hbq hrow hrb HRB5 HROW HBQ HWI HWH
        by_cases hf : finE b bid = 0
        · have hfb : finB b bid = b.fine bid := if_pos hf
          rw [hf, hfb] at HFQ
          have HAG : Hid (AG bid (b.fine bid) (b.fine bid)) := Lib.hid (AG.start (fine_same b bid))
          have HOL1 : Hid ((b.fine bid).old.length ≤ 108) := Lib.hid (by show b.old.length ≤ 108; omega)
          have HDU1 : Hid ((b.fine bid).dut = b0.dut) := Lib.hid HDU.out
          clear hf hfb hol HDU
          generalize b.fine bid = b1 at *
          go_upto_region 14 with (go_at_call 12; (with_reducible refine HFQ.out.mono ?_); rintro e w6 ⟨rfl, hb6, -, hc6, hs6⟩)
          have HBX := Lib.hid hb6.bx
          have HRB7 := Lib.hid (HRB6.out.kc hc6)
          clear hb6 hc6 hs6 HFQ HRB6
          have HHA : Hid (∀ b' : Bk, b'.dut = b0.dut → hasA b' bid) := Lib.hid fun b' hb' => by
            obtain ⟨a, ha⟩ := HHAS2.out
            exact ⟨a, by rw [hb']; exact ha⟩
          have HVA := Lib.hid (values_any w pb b1 W3.heap.size pw L C D bid w6 HBX.out HRB7.out hL3 hC3 hD3 HLo.out HCo.out HOB.out (fun _ => HHA.out _ HDU1.out))
          go_upto_region 16 with (go_at_call 13; (with_reducible refine HVA.out.mono ?_); rintro e w7 ⟨r1, zs, rfl, hrz, hvl, hzo, hzl, hb7, hx7⟩; obtain ⟨zb, zc, rfl⟩ := (SR.of_row (cs := celI) (fun _ => rfl) hrz (by omega)).form)
          have HRZ := Lib.hid (row_base hrz (Nat.zero_le _))
          have HVL := Lib.hid hvl; have HZO := Lib.hid hzo; have HBX7 := Lib.hid hb7; have HRB8 := Lib.hid (HRB7.out.ext hx7)
          clear hrz hvl hzo hb7 hx7 HVA HBX HRB7
          go_loopw [16] (fun k wr => ∃ (i : Nat) (b : Bk), k = .int .i64 i ∧ i ≤ ac.length ∧ i ≤ 30 ∧ BX w wr pb b ∧ Hid (AG bid b1 b) ∧ RB W3.heap.size wr pw L C D ∧ wr.ownsRow 0 3 1 (.slice zb zs.length zc) zs.length (zs.flatMap celI) ∧ Hid (b.dut = b0.dut) ∧ b.old.length ≤ 108 + i) (fun k _ => 30 - (iof k).toNat)
          case atStart => exact ⟨0, b1, rfl, Nat.zero_le _, by omega, HBX7.out, HAG, HRB8.out, HRZ.out, HDU1, HOL1.out⟩
          case round =>
            obtain ⟨i, b, rfl, hi, hi3, hbx, HA, hrb, hrz, HDU, hol⟩ := hrel
            by_cases hil : i < ac.length ∧ i < 30
            · obtain ⟨hil, hi30⟩ := hil
              have hxw := hbx.ex
              obtain ⟨qb, qo, rfl, hcell, hok⟩ := (H4.out.ext hxw).at i hil
              have q0 := hcell 0 (by decide)
              have q1 := hcell 1 (by decide)
              have q2 := hcell 2 (by decide)
              have q3 := hcell 3 (by decide)
              have q4 := hcell 4 (by decide)
              have q5 := hcell 5 (by decide)
              have q6 := hcell 6 (by decide)
              have q7 := hcell 7 (by decide)
              have hbl := World.block_lt_of_cell? wr _ q3
              have HO3 := Lib.hid (hok 3)
              have HGR := Lib.hid (Grade_e W3.heap.size pw L C D (ac[i].getD 0 0) (ac[i].getD 1 0) (ac[i].getD 2 0) (ac[i].getD 3 0) (ac[i].getD 4 0) (ac[i].getD 5 0) (ac[i].getD 6 0) (ac[i].getD 7 0) wr hrb hL3 hC3 hD3 HLo.out HDo.out (hok 1) (hok 2) (hok 3) (hok 4) (hok 5) (hok 6) (hok 7))
              obtain ⟨-, -, h4c⟩ : True ∧ True ∧ ∀ W, Ext w W → W.cell? ⟨qb, qo + i * 8 + 3, none⟩ = some (.int .i64 (ac[i].getD 3 0)) := ⟨trivial, trivial, fun W hW => by
                obtain ⟨b1', o1', e, hc, -⟩ := (H4.out.ext hW).at i hil
                injection e with e
                injection e with e1 e2
                subst e1 e2
                exact hc 3 (by decide)⟩
              have H3C := Lib.hid h4c
              clear hcell hok hxw h4c
              generalize ac[i].getD 0 0 = a0 at *
              generalize ac[i].getD 1 0 = a1 at *
              generalize ac[i].getD 2 0 = a2 at *
              generalize ac[i].getD 3 0 = a3 at *
              generalize ac[i].getD 4 0 = a4 at *
              generalize ac[i].getD 5 0 = a5 at *
              generalize ac[i].getD 6 0 = a6 at *
              generalize ac[i].getD 7 0 = a7 at *
              simp only [Nat.add_zero] at q0
              have hii : (i : Int) < ac.length := by omega
              have HBXr := Lib.hid hbx; have HRBr := Lib.hid hrb; have HRZr := Lib.hid hrz
              clear hbx hrb hrz
              go_upto_region 19 with (go_at_call 14; (with_reducible refine HGR.out.mono ?_); rintro e w8 ⟨ga, gb, gl, gn, gN, gt, rfl, hgo, hx8⟩)
              have hxa : Ext w8 (w8.alloc (.cells #[.int .i64 ga, .int .i64 gb, .int .i64 gl, .string gn, .int .i64 gN, .int .i64 gt] 55)) := Ext.alloc (Ext.refl _) _
              have hq := heap_alloc_new w8 (.cells #[.int .i64 ga, .int .i64 gb, .int .i64 gl, .string gn, .int .i64 gN, .int .i64 gt] 55)
              have HB8 := Lib.hid (((HBXr.out.ext hx8).bq (Nat.le_refl _)).ext hxa)
              have HRB9 := Lib.hid ((HRBr.out.ext hx8).ext hxa)
              have HRZ9 := Lib.hid (row_ext (row_ext HRZr.out hx8) hxa)
              obtain ⟨qv, hqv⟩ : ∃ qv, qv = w8.heap.size := ⟨_, rfl⟩
              rw [← hqv] at hq HB8 ⊢
              clear hxa hqv hx8 q0 q1 q2 q3 q4 q5 q6 q7 hbl HGR HBXr HRBr HRZr
              generalize w8.alloc (.cells #[.int .i64 ga, .int .i64 gb, .int .i64 gl, .string gn, .int .i64 gN, .int .i64 gt] 55) = w9 at *
              have HQ := Lib.hid hq
              have HGO := Lib.hid hgo
              have HCH := Lib.hid (changed_q HB8.out (by omega))
              clear hq hgo
              go_upto_region 20 with (go_at_call 15; (with_reducible refine HCH.out.mono ?_); rintro e wa ⟨rv, rfl, hra, hba, hxa⟩; obtain ⟨rvb, rvc, rfl⟩ := hra.form)
              have HQA := Lib.hid (keep_heap hxa HQ.out)
              have HRBA := Lib.hid (HRB9.out.ext hxa)
              have HRZA := Lib.hid (row_ext HRZ9.out hxa)
              have HG := Lib.hid (give_q (g := ⟨ga, gb, gl, gn, gN, gt⟩) hba (fun k hk => by injection hk with hk; subst hk; exact Rg.lt_of_heap HQA.out) HGO.out (by omega))
              have HGD := Lib.hid (giveR_dut b ⟨ga, gb, gl, gn, gN, gt⟩)
              have HAG2 := Lib.hid (HA.out.give ⟨ga, gb, gl, gn, gN, gt⟩)
              have HLT : Hid (gb = bid → (giveR b ⟨ga, gb, gl, gn, gN, gt⟩).1 ≠ 0 ∧ (giveR b ⟨ga, gb, gl, gn, gN, gt⟩).2 = b) := Lib.hid fun e => HA.out.late e
              generalize (giveR b ⟨ga, gb, gl, gn, gN, gt⟩).1 = ge at *
              generalize (giveR b ⟨ga, gb, gl, gn, gN, gt⟩).2 = b' at *
              simp only [Gd.v] at HG
              clear hra hba hxa HQ HCH HRB9 HRZ9 HB8
              go_upto_region 21 with (first
                | (refine wpList_load_row (hgd := rfl) 55 (.tmp 17) rfl qv (by rfl) 55 _ _ _ HQA.out Try.underlying55 rfl (by kernel_rfl) ?_)
                | (go_at_call 11; (with_reducible refine HG.out.mono ?_); rintro e wb ⟨rfl, hbb, hkb, hcb, hsb⟩))
              have HQB := Lib.hid ((hkb qv rfl).trans HQA.out)
              have HRBB := Lib.hid (HRBA.out.kc hcb)
              have HRZB := Lib.hid (hcb.row HRZA.out (by decide) (by decide))
              have q3 := H3C.out wb hbb.bx.ex
              have hbl := World.block_lt_of_cell? wb _ q3
              have HFI := Lib.hid (final_q (bid := a3) hbb (fun k hk => by injection hk with hk; subst hk; exact Rg.lt_of_heap HQB.out) HO3.out)
              have HFD := Lib.hid (finB_dut b' a3)
              have HAG3 := Lib.hid (HAG2.out.finB a3)
              generalize finE b' a3 = fe at *
              generalize finB b' a3 = b'' at *
              clear hbb hkb hcb hsb HG HQA HRBA HRZA HAG2
              go_upto_region 22 with (go_at_call 12; (with_reducible refine HFI.out.mono ?_); rintro e wc ⟨rfl, hbc, hkc, hcc, hsc⟩)
              have hqc := (hkc qv rfl).trans HQB.out
              have e1 := cell_of_row wc qv 1 _ _ _ hqc
              have el := Rg.lt_of_heap hqc
              have HRBC := Lib.hid (HRBB.out.kc hcc)
              have HRZC := Lib.hid (hcc.row HRZB.out (by decide) (by decide))
              have HBC := Lib.hid hbc
              have HODU : Hid (b''.dut = b0.dut ∧ b''.old.length ≤ 108 + (i + 1)) := Lib.hid ⟨HFD.out.1.trans (HGD.out.1.trans HDU.out), by rw [HFD.out.2]; have := HGD.out.2; omega⟩
              clear hqc hkc hcc hsc hbc q3 hbl HFI HQB HRBB HRZB
              by_cases hgb : gb = bid
              · obtain ⟨hne, hbe⟩ := HLT.out hgb
                have hln : b''.old.length = b.old.length := by rw [HFD.out.2, hbe]
                have HCH : Hid (Calls Try.prog 15 #[.pointer (some ⟨pb, 0, none⟩)] wc fun e w' => ∃ r c, e = .returned (.slice r b.old.length c) ∧ BQ w w' pb b'' (some qv) ∧ Ext wc w') := Lib.hid ((changed_q HBC.out (by have := HODU.out.2; omega)).mono fun _ _ ⟨r, he, hr, h1, h2⟩ => by
                  obtain ⟨r1, r2, e1⟩ := hr.form
                  rw [hln] at e1
                  exact ⟨r1, r2, by rw [he, e1], h1, h2⟩)
                clear hln
                have hge : ¬ ge = 0 := hne
                clear hne hbe HLT
                subst hgb
                go_wp2_with (go_at_call 15; (with_reducible refine HCH.out.mono ?_); rintro e wd ⟨rvb', rvc', rfl, hbd, hxd⟩)
                exact ⟨⟨i + 1, b'', by simp, by omega, by omega, hbd.bx, HAG3, HRBC.out.ext hxd, row_ext HRZC.out hxd, Lib.hid HODU.out.1, HODU.out.2⟩, by simp [iof]; omega⟩
              · go_wp2_with (fail)
                exact ⟨⟨i + 1, b'', by simp, by omega, by omega, HBC.out.bx, HAG3, HRBC.out, HRZC.out, Lib.hid HODU.out.1, HODU.out.2⟩, by simp [iof]; omega⟩
            · have hcase : ((i : Int) < ac.length ∧ ¬ (i : Int) < 30) ∨ ¬ (i : Int) < ac.length := by omega
              have HVA := Lib.hid (values_any w pb b W3.heap.size pw L C D bid wr hbx hrb hL3 hC3 hD3 HLo.out HCo.out HOB.out (fun _ => HHA.out _ HDU.out))
              have HRZr := Lib.hid hrz
              clear hbx hrb hrz hil
              rcases hcase with ⟨hc1, hc2⟩ | hc1
              · go_upto_region 25 with (go_at_call 13; (with_reducible refine HVA.out.mono ?_); rintro e wt ⟨r2, zt, rfl, hrt, hvt, hzt, hztl, hbt, hxt⟩)
                clear hc1 hc2
                have HEQ : Hid (zs = zt) := Lib.hid (HA.out.vals hvt HVL.out)
                have HRT := Lib.hid (ird_row hrt hzt (by omega))
                have HRS := Lib.hid (ird_row (row_ext HRZr.out hxt) HZO.out (by omega))
                have hlt : zt.length = zs.length := by rw [HEQ.out]
                obtain ⟨tb, tc, rfl⟩ := (SR.of_row (cs := celI) (fun _ => rfl) hrt (by omega)).form
                rw [hlt] at HRT ⊢
                have HBT := Lib.hid hbt
                clear hlt hrt hvt hzt hbt hxt hztl
                go_upto_region 26 with (fail)
                obtain ⟨V, hV⟩ : ∃ V, V = wt := ⟨_, rfl⟩
                rw [← hV] at HBT HRT HRS ⊢
                clear hV
                go_loopw [114] (fun k wr => ∃ j : Nat, k = .int .i64 j ∧ j ≤ zs.length ∧ Ext V wr) (fun k _ => zs.length - (iof k).toNat)
                case atStart => exact ⟨0, rfl, Nat.zero_le _, Ext.refl _⟩
                case round =>
                  obtain ⟨j, rfl, hj, hxj⟩ := hrel
                  by_cases hjl : j < zs.length
                  · obtain ⟨xb, xo, rfl, hc1, -⟩ := ird_at (HRS.out.ext hxj) j hjl
                    obtain ⟨yb, yo, rfl, hc2, -⟩ := ird_at (HRT.out.ext hxj) j (by rw [← HEQ.out]; exact hjl)
                    have hzz : zt[j]'(by rw [← HEQ.out]; exact hjl) = zs[j] := by
                      have := HEQ.out
                      subst this
                      rfl
                    rw [hzz] at hc2
                    have l1 := World.block_lt_of_cell? wr _ hc1
                    have l2 := World.block_lt_of_cell? wr _ hc2
                    clear hzz
                    generalize zs[j] = z at *
                    go_upto_region 28 with (fail)
                    go_quiet (fail)
                    go_wp2_with (fail)
                    exact ⟨⟨j + 1, by simp, by omega, Ext.drewN hxj _⟩, by simp [iof]; omega⟩
                  · obtain rfl : j = zs.length := by omega
                    obtain ⟨FT, hf1, -, -⟩ := HBT.out.ext hxj
                    have HIF : Hid (Calls Try.prog 16 #[.pointer (some ⟨pb, 0, none⟩), .int .i64 bid] wr fun e w' => e = .returned (.bool true) ∧ w' = wr) := Lib.hid (by
                      have := IsFinal_any pb b FT bid HOB.out wr hf1
                      rw [HA.out.fin] at this
                      exact this)
                    have HFF := Lib.hid (final_nk (HBT.out.ext hxj) (finE_33 (HHA.out _ HDU.out) HA.out.fin) (by decide) HOB.out)
                    clear hf1
                    go_wp2_with (first
                      | (go_at_call 16; (with_reducible refine HIF.out.mono ?_); rintro e we ⟨rfl, hwe⟩; have h9 := hwe.symm; clear hwe; subst h9)
                      | (go_at_call 12; (with_reducible refine HFF.out.mono ?_); rintro e wf ⟨rfl, hbf, -, -⟩))
                    go_ret
                    exact ⟨rfl, hbf.ex⟩
              · go_upto_region 25 with (go_at_call 13; (with_reducible refine HVA.out.mono ?_); rintro e wt ⟨r2, zt, rfl, hrt, hvt, hzt, hztl, hbt, hxt⟩)
                clear hc1
                have HEQ : Hid (zs = zt) := Lib.hid (HA.out.vals hvt HVL.out)
                have HRT := Lib.hid (ird_row hrt hzt (by omega))
                have HRS := Lib.hid (ird_row (row_ext HRZr.out hxt) HZO.out (by omega))
                have hlt : zt.length = zs.length := by rw [HEQ.out]
                obtain ⟨tb, tc, rfl⟩ := (SR.of_row (cs := celI) (fun _ => rfl) hrt (by omega)).form
                rw [hlt] at HRT ⊢
                have HBT := Lib.hid hbt
                clear hlt hrt hvt hzt hbt hxt hztl
                go_upto_region 26 with (fail)
                obtain ⟨V, hV⟩ : ∃ V, V = wt := ⟨_, rfl⟩
                rw [← hV] at HBT HRT HRS ⊢
                clear hV
                go_loopw [114] (fun k wr => ∃ j : Nat, k = .int .i64 j ∧ j ≤ zs.length ∧ Ext V wr) (fun k _ => zs.length - (iof k).toNat)
                case atStart => exact ⟨0, rfl, Nat.zero_le _, Ext.refl _⟩
                case round =>
                  obtain ⟨j, rfl, hj, hxj⟩ := hrel
                  by_cases hjl : j < zs.length
                  · obtain ⟨xb, xo, rfl, hc1, -⟩ := ird_at (HRS.out.ext hxj) j hjl
                    obtain ⟨yb, yo, rfl, hc2, -⟩ := ird_at (HRT.out.ext hxj) j (by rw [← HEQ.out]; exact hjl)
                    have hzz : zt[j]'(by rw [← HEQ.out]; exact hjl) = zs[j] := by
                      have := HEQ.out
                      subst this
                      rfl
                    rw [hzz] at hc2
                    have l1 := World.block_lt_of_cell? wr _ hc1
                    have l2 := World.block_lt_of_cell? wr _ hc2
                    clear hzz
                    generalize zs[j] = z at *
                    go_upto_region 28 with (fail)
                    go_quiet (fail)
                    go_wp2_with (fail)
                    exact ⟨⟨j + 1, by simp, by omega, Ext.drewN hxj _⟩, by simp [iof]; omega⟩
                  · obtain rfl : j = zs.length := by omega
                    obtain ⟨FT, hf1, -, -⟩ := HBT.out.ext hxj
                    have HIF : Hid (Calls Try.prog 16 #[.pointer (some ⟨pb, 0, none⟩), .int .i64 bid] wr fun e w' => e = .returned (.bool true) ∧ w' = wr) := Lib.hid (by
                      have := IsFinal_any pb b FT bid HOB.out wr hf1
                      rw [HA.out.fin] at this
                      exact this)
                    have HFF := Lib.hid (final_nk (HBT.out.ext hxj) (finE_33 (HHA.out _ HDU.out) HA.out.fin) (by decide) HOB.out)
                    clear hf1
                    go_wp2_with (first
                      | (go_at_call 16; (with_reducible refine HIF.out.mono ?_); rintro e we ⟨rfl, hwe⟩; have h9 := hwe.symm; clear hwe; subst h9)
                      | (go_at_call 12; (with_reducible refine HFF.out.mono ?_); rintro e wf ⟨rfl, hbf, -, -⟩))
                    go_ret
                    exact ⟨rfl, hbf.ex⟩
        · have hfz : ¬ finE b bid = 0 := hf
          generalize finE b bid = fe at *
          go_wp2_with (go_at_call 12; (with_reducible refine HFQ.out.mono ?_); rintro e w6 ⟨rfl, hb6, -, hc6, hs6⟩)
          go_ret
          exact ⟨rfl, hb6.bx.ex⟩
end Go.Proofs.Ytnplnfkmcfalhaa
