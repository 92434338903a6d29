/-
  FlowChecks, walked. Conditions: the arguments read as rows of ints and three ints.
-/
import Derived.Test.YthdhlocoiipbaaaFlX
import Derived.Test.YthdhlocoiipbaaaFlY
import Derived.Test.YthdhlocoiipbaaaFlKb
namespace Go.Proofs.Ythdhlocoiipbaaa
set_option linter.unusedVariables false
set_option linter.unusedSimpArgs false
open Go.RowKit

theorem band_one (x : Int) : 0 ≤ band x 1 ∧ band x 1 ≤ 1 := by
  unfold band
  have h : (BitVec.ofInt 64 x &&& BitVec.ofInt 64 1).toNat ≤ 1 := by
    rw [BitVec.toNat_and]
    exact Nat.and_le_right
  generalize (BitVec.ofInt 64 x &&& BitVec.ofInt 64 1).toNat = k at *
  rcases (show k = 0 ∨ k = 1 by omega) with rfl | rfl <;> decide
theorem sameL_self : ∀ l : List Ms, sameL l l = true
  | [] => rfl
  | a :: l => by rw [sameL, sameL_self l]; simp [sameM]
/-- Only blocks from lo up to hi have turned, and new ones. -/
structure KB (lo hi : Nat) (w w' : World) : Prop where
  os : w'.os = w.os
  tape : w'.tape = w.tape
  output : w'.output = w.output
  size : w.heap.size ≤ w'.heap.size
  block : ∀ k, k < w.heap.size → (k < lo ∨ hi ≤ k) → w'.heap[k]? = w.heap[k]?
theorem KB.of {lo hi : Nat} {w w' : World} (e : Ext w w') : KB lo hi w w' := ⟨e.os, e.tape, e.output, e.size, fun k hk _ => e.block k hk⟩
theorem KB.trans {lo hi : Nat} {w w1 w2 : World} (h : KB lo hi w w1) (h2 : KB lo hi w1 w2) : KB lo hi w w2 :=
  ⟨h2.os.trans h.os, h2.tape.trans h.tape, h2.output.trans h.output, Nat.le_trans h.size h2.size, fun k hk hn => (h2.block k (Nat.lt_of_lt_of_le hk h.size) hn).trans (h.block k hk hn)⟩
theorem KB.below {lo hi B : Nat} {w w' : World} (h : KB lo hi w w') (hB : B ≤ lo) (hw : B ≤ w.heap.size) : Below B w w' :=
  ⟨h.os, h.tape, h.output, h.size, fun k hk => h.block k (by omega) (.inl (by omega))⟩
theorem KB.row {lo hi B E sz n : Nat} {w w' : World} {v : Value} {xs : List Value} (h : KB lo hi w w') (hr : w.ownsRow B E sz v n xs) (hB : hi ≤ B) : w'.ownsRow B E sz v n xs := by
  refine ⟨hr.1, ?_⟩
  rcases hr.2 with hn | ⟨g, cap, cur, hv, hb, hg, rest⟩
  · exact .inl hn
  · exact .inr ⟨g, cap, cur, hv, hb, (h.block g (Rg.lt_of_heap hg) (.inr (by omega))).trans hg, rest⟩

theorem FewS.ri' {B : Nat} {w : World} {v : Value} {xs : List It} (h : FewS B w v xs) (hl : xs.length ≤ 20) : RI w v xs :=
  ⟨(SR.of_row (cs := It.cs) (fun x => rfl) h.1 (by omega)).sq, fun x hx => ⟨(h.2 x hx).1, (h.2 x hx).2.1, ird_row (h.2 x hx).2.2.2.2 (h.2 x hx).2.2.1 (by have := (h.2 x hx).2.2.2.1; omega)⟩⟩
theorem KB.mess {lo hi N : Nat} {M : Int} {f : Nat → Nat → Int} {w w' : World} {v : Value} {ms : List Ms} (h : KB lo hi w w') (hm : MessS hi N M f w v ms) : MessS hi N M f w' v ms :=
  ⟨h.row hm.1 (Nat.le_refl _), hm.2.1, fun k hk => ⟨(hm.2.2 k hk).1, h.row (hm.2.2 k hk).2 (Nat.le_refl _)⟩⟩
theorem KB.ird {lo hi b n c : Nat} {w w' : World} {zs : List Int} (h : KB lo hi w w') (hr : IRd w (.slice (some ⟨b, 0, none⟩) n c) zs) (hb : hi ≤ b) (hz : zs ≠ []) : IRd w' (.slice (some ⟨b, 0, none⟩) n c) zs := by
  obtain ⟨A, cap, h1, h2, h3, h4⟩ := hr
  obtain ⟨b', off, ha, hc⟩ := h4.resolve_left hz
  injection h1 with e1 e2 e3
  subst e1
  injection ha with ha
  injection ha with ha1 ha2
  subst ha1 ha2
  refine ⟨_, cap, by rw [e2, e3], h2, h3, .inr ⟨b, 0, rfl, fun k hk => ?_⟩⟩
  have hq := hc k hk
  have hl := World.block_lt_of_cell? w _ hq
  rw [World.cell?_of_block (a := ⟨b, 0 + k, none⟩) (h.block b hl (.inr hb))]
  exact hq
theorem KB.below' {lo hi B : Nat} {w w' : World} (h : KB lo hi w w') (hB : B ≤ lo) : ∀ k, k < B → k < w.heap.size → w'.heap[k]? = w.heap[k]? := fun k hk hw => h.block k hw (.inl (by omega))

set_option maxRecDepth 100000 in
set_option maxHeartbeats 4000000 in
theorem checks_walk (v u : Value) (f g : Nat → Nat → Int) (n m : Nat) (p0 p1 p2 : Int) (hp0 : OkI p0) (hp1 : OkI p1) (hp2 : OkI p2) (w : World) (h : RA 3 w v f n) (h5 : RA 5 w u g m) :
    Calls Try.prog 5 #[v, u, .agg #[.int .i64 p0, .int .i64 p1, .int .i64 p2]] w fun e w' => e = .returned (.bool true) ∧ Ext w w' := by
  have H0 := Lib.hid h; clear h
  have H5 := Lib.hid h5; clear h5
  have HP0 := Lib.hid hp0; have HP1 := Lib.hid hp1; have HP2 := Lib.hid hp2; clear hp0 hp1 hp2
  go_enter Try.func5, Try.ntmps5
  go_upto_region 1 with (fail)
  have hE0 : Ext w (w.alloc (.cells #[.int .i64 p0, .int .i64 p1, .int .i64 p2] 35)) := Ext.alloc (Ext.refl _) _
  have hpb := World.alloc_heap_new w (.cells #[.int .i64 p0, .int .i64 p1, .int .i64 p2] 35)
  generalize w.alloc (.cells #[.int .i64 p0, .int .i64 p1, .int .i64 p2] 35) = w0 at *
  have HPB : Hid (∀ w', Ext w0 w' → w'.heap[w.heap.size]? = some (.cells #[.int .i64 p0, .int .i64 p1, .int .i64 p2] 35)) := Lib.hid fun w' h => (h.block _ (Rg.lt_of_heap hpb)).trans hpb
  have hpl : w.heap.size < w0.heap.size := Rg.lt_of_heap hpb
  have HPL := Lib.hid hpl
  clear hpb hpl
  generalize hpbe : w.heap.size = pb at *
  have HPE := Lib.hid hpbe; clear hpbe
  obtain ⟨d1, hd1⟩ : ∃ d, bits BinOp.and IntKind.i64 p2 1 = d := ⟨_, rfl⟩
  obtain ⟨d3, hd3⟩ : ∃ d, bits BinOp.and IntKind.i64 p0 3 = d := ⟨_, rfl⟩
  have hb1 : 0 ≤ d1 ∧ d1 ≤ 1 := by rw [← hd1]; exact band_one p2
  have hb3 : OkI d3 := by rw [← hd3]; exact band_ok p0 3
  have HB3 := Lib.hid hb3; clear hb3
  go_upto_region 3 with (first
    | (go_at_call 11; (with_reducible refine (sanity_any _).mono ?_); rintro e w1 ⟨rfl, hx1⟩)
    | (go_at_call 12; (with_reducible refine (Made_dj v f n _ ((H0.out.ext hE0).ext hx1)).mono ?_); rintro e w2 ⟨r, xs, rfl, ⟨hM, hD⟩, hN, hx2⟩; obtain ⟨bx, cx, rfl⟩ := (hM.ri (by omega)).1.form; have hxl : xs.length ≤ 20 := (by omega); have HM := Lib.hid hM; have HD := Lib.hid hD; clear hM hD hN))
  have hw2 : Ext w0 w2 := hx1.trans hx2
  have b2 := HPB.out w2 hw2
  have q20 := cell_of_row w2 pb 0 _ _ _ b2
  have q22 := cell_of_row w2 pb 2 _ _ _ b2
  go_upto_region 4 with (go_at_call 17; go_loud (with_reducible refine (Messages_any u g m (xs.length + d1) _ ((H5.out.ext hE0).ext hw2) (by omega)).mono ?_); rintro e w3 ⟨r3, ms, rfl, hS, -, hx3⟩; obtain ⟨bm, cm, rfl⟩ := (hS.rm (by omega) (by omega)).1.form)
  have HS := Lib.hid hS
  have hml : ms.length ≤ 30 := hS.2.1
  clear hS
  have hw3 := hw2.trans hx3
  have b3 := HPB.out w3 hw3
  clear q20 q22 b2
  have q30 := cell_of_row w3 pb 0 _ _ _ b3
  go_upto_region 5 with (fail)
  have hx4 := Ext.alloc (Ext.refl w3) (.cells #[.int .i64 d3, .int .i64 4] 3)
  have hA4 : IRd (w3.alloc (.cells #[.int .i64 d3, .int .i64 4] 3)) (.slice (some ⟨w3.heap.size, 0, none⟩) 2 2) [d3, 4] := ird_lit (zs := [d3, 4]) (World.alloc_heap_new w3 _) (by
    intro z hz
    rcases List.mem_cons.1 hz with rfl | hz
    · exact HB3.out
    · exact okI_small (by simp at hz; omega)) rfl (by decide)
  generalize w3.alloc (.cells #[.int .i64 d3, .int .i64 4] 3) = w4 at *
  have HA4 := Lib.hid hA4; clear hA4
  obtain ⟨pa, hpa⟩ : ∃ pa, w3.heap.size = pa := ⟨_, rfl⟩
  rw [hpa] at HA4 ⊢
  have HPA := Lib.hid hpa; clear hpa
  have hw4 : Ext w0 w4 := hw3.trans hx4
  have b4 := HPB.out w4 hw4
  clear q30 b3
  have q41 := cell_of_row w4 pb 1 _ _ _ b4
  have HR4 := Lib.hid (((HM.out.ri (by omega)).ext hx3).ext hx4)
  have HM4 := Lib.hid ((HS.out.rm (by omega) (by omega)).ext hx4)
  go_upto_region 6 with (go_at_call 18; go_loud (with_reducible refine (Check_any xs ms [d3, 4] p1 _ _ _ _ HR4.out HM4.out HA4.out HP1.out).mono ?_); rintro e w5 ⟨r5, rfl, hr5, hx5⟩; obtain ⟨b5, c5, rfl⟩ := hr5.1.form)
  have hw5 := hw4.trans hx5
  have b5' := HPB.out w5 hw5
  clear q41 b4
  have q51 := cell_of_row w5 pb 1 _ _ _ b5'
  go_upto_region 7 with (go_at_call 19; go_loud (with_reducible refine (refCheck_any xs ms [d3, 4] p1 _ _ _ _ (HR4.out.ext hx5) (HM4.out.ext hx5) (HA4.out.ext hx5)).mono ?_); rintro e w6 ⟨r6, rfl, hr6, hx6⟩; obtain ⟨b6, c6, rfl⟩ := hr6.1.form)
  have hS7 := SameAll_any _ _ _ _ w6 (hr5.ext hx6) hr6
  rw [sameL_self] at hS7
  generalize (chk xs ms [d3, 4] p1).1.length = nf at *
  generalize (chk xs ms [d3, 4] p1).2 = kf at *
  go_upto_region 9 with (go_at_call 20; go_loud (with_reducible refine hS7.mono ?_); rintro e w7 ⟨rfl, hx7⟩)
  have hw7 : Ext w4 w7 := (hx5.trans hx6).trans hx7
  have HA7 := Lib.hid (HA4.out.ext hw7)
  have hw27 : Ext w2 w7 := (hx3.trans hx4).trans hw7
  have b7 := HPB.out w7 (hw4.trans hw7)
  have HB7 := Lib.hid b7
  have HF7 : Hid (FewS w1.heap.size w7 (.slice bx xs.length cx) xs ∧ (∀ x ∈ xs, x.frm.length ≤ 2) ∧ DJ xs ∧ ∀ x ∈ xs, ∀ q, x.fv.ownBlock = some q → q < w2.heap.size) := Lib.hid (by
    obtain ⟨a1, a2⟩ := FewS.of_made HM.out (by omega)
    exact ⟨⟨row_ext a1.1 hw27, fun x hx => ⟨(a1.2 x hx).1, (a1.2 x hx).2.1, (a1.2 x hx).2.2.1, (a1.2 x hx).2.2.2.1, row_ext (a1.2 x hx).2.2.2.2 hw27⟩⟩, a2, HD.out, fun x hx q hq => ((a1.2 x hx).2.2.2.2.lt q hq).2⟩)
  have HS7 : Hid (MessS w2.heap.size 30 (xs.length + d1) g w7 (.slice bm ms.length cm) ms) := Lib.hid (by
    have hw37 : Ext w3 w7 := hx4.trans hw7
    exact ⟨row_ext HS.out.1 hw37, HS.out.2.1, fun k hk => ⟨(HS.out.2.2 k hk).1, row_ext (HS.out.2.2 k hk).2 hw37⟩⟩)
  have HLO : Hid (pb < w1.heap.size ∧ w2.heap.size ≤ pa ∧ w1.heap.size ≤ w2.heap.size ∧ w.heap.size ≤ w1.heap.size ∧ pa < w7.heap.size) := Lib.hid (by
    have := HPL.out; have := hx1.size; have := hx2.size; have := hx3.size; have := HPA.out; have := HPE.out; have := hE0.size; have := hx4.size; have := hw7.size
    have h9 : pa < w4.heap.size := by
      obtain ⟨A', c', e1, -, -, hcell⟩ := HA4.out
      injection e1 with e1
      subst e1
      obtain ⟨b, off, e2, hc⟩ := hcell.resolve_left (by simp)
      injection e2 with e2
      injection e2 with e2 e3
      subst e2
      exact World.block_lt_of_cell? w4 _ (hc 0 (by simp))
    exact ⟨by omega, by omega, by omega, by omega, by omega⟩)
  have HE7 : Hid (Ext w w7) := Lib.hid ((hE0.trans hw4).trans hw7)
  have HG := Lib.hid (fun (q : Nat) (e : bx = some ⟨q, 0, none⟩) => (HM.out.1.lt q (by rw [e]; rfl)).2)
  clear hw27 b7 hw7 hx1 hx2 hx3 hx4 hx5 hx6 hx7 hw2 hw3 hw4 hw5 hr5 hr6 hE0 b5' q51 HR4 HM4 HA4 HM HD HS hS7
  by_cases h1 : 1 < xs.length
  · obtain ⟨d2, hd2⟩ : ∃ d, bits BinOp.and IntKind.i64 p2 2 = d := ⟨_, rfl⟩
    obtain ⟨d4, hd4⟩ : ∃ d, bits BinOp.and IntKind.i64 p2 4 = d := ⟨_, rfl⟩
    have q72 := cell_of_row w7 pb 2 _ _ _ HB7.out
    by_cases hA : d2 = 0
    · obtain ⟨gb, gc, e0, hgb, -⟩ := World.ownsRow.form HF7.out.1.1 (by omega)
      injection e0 with e1 e2 e3
      subst e1 e3
      have hgb2 := HG.out gb rfl
      clear e2
      go_upto_region 11 with (fail)
      obtain ⟨wA, hwA⟩ : ∃ wA, wA = w7 := ⟨_, rfl⟩
      obtain ⟨ys, hys⟩ : ∃ ys, ys = xs := ⟨_, rfl⟩
      have HFA : Hid (FewS w1.heap.size wA (.slice (some ⟨gb, 0, none⟩) xs.length cx) ys ∧ (∀ y ∈ ys, y.frm.length ≤ 2) ∧ DJ ys ∧ ys.length = xs.length ∧ ∀ x ∈ ys, ∀ q, x.fv.ownBlock = some q → q < w2.heap.size) := Lib.hid (by rw [hwA, hys]; exact ⟨HF7.out.1, HF7.out.2.1, HF7.out.2.2.1, rfl, HF7.out.2.2.2⟩)
      have hkA : Hid (KB w1.heap.size w2.heap.size w7 wA) := Lib.hid (hwA ▸ KB.of (Ext.refl _))
      rw [← hwA]
      clear hwA hys q72
      have bA := (hkA.out.block pb (Rg.lt_of_heap HB7.out) (.inl HLO.out.1)).trans HB7.out
      have qA2 := cell_of_row wA pb 2 _ _ _ bA
      have HRt : Hid (RI wA (.slice (some ⟨gb, 0, none⟩) xs.length cx) ys) := Lib.hid (HFA.out.1.ri' (by rw [HFA.out.2.2.2.1]; exact hxl))
      by_cases hB : d4 = 0
      · clear bA
        go_upto_region 13 with (fail)
        obtain ⟨wt, hwt⟩ : ∃ wt, wt = wA := ⟨_, rfl⟩
        have hk := hkA.out
        clear qA2
        subst hwt
        have HMt := Lib.hid ((KB.mess hk HS7.out).rm (by omega) (by omega))
        have HAt : Hid (IRd wt (.slice (some ⟨pa, 0, none⟩) 2 2) [d3, 4]) := Lib.hid (KB.ird hk HA7.out HLO.out.2.1 (by simp))
        have bt : wt.heap[pb]? = _ := (hk.block pb (Rg.lt_of_heap HB7.out) (.inl HLO.out.1)).trans HB7.out
        have HBt := Lib.hid bt
        have HEt : Hid (Ext w wt) := Lib.hid (Below.trans HE7.out (hk.below HLO.out.2.2.2.1 HE7.out.size))
        have t1 := cell_of_row wt pb 1 _ _ _ bt
        clear hk bt
        go_upto_region 14 with (go_at_call 18; go_loud (with_reducible refine (Check_any ys ms [d3, 4] p1 _ _ _ _ HRt.out HMt.out HAt.out HP1.out).mono ?_); rintro e w8 ⟨r8, rfl, hr8, hx8⟩; obtain ⟨b8, c8, rfl⟩ := hr8.1.form)
        have q81 := cell_of_row w8 pb 1 _ _ _ ((hx8.block _ (Rg.lt_of_heap HBt.out)).trans HBt.out)
        clear t1
        go_upto_region 15 with (go_at_call 19; go_loud (with_reducible refine (refCheck_any ys ms [d3, 4] p1 _ _ _ _ (HRt.out.ext hx8) (HMt.out.ext hx8) (HAt.out.ext hx8)).mono ?_); rintro e w9 ⟨r9, rfl, hr9, hx9⟩; obtain ⟨b9, c9, rfl⟩ := hr9.1.form)
        have hS9 := SameAll_any _ _ _ _ w9 (hr8.ext hx9) hr9
        rw [sameL_self] at hS9
        generalize (chk ys ms [d3, 4] p1).1.length = nz at *
        generalize (chk ys ms [d3, 4] p1).2 = kz at *
        go_wp2_with (go_at_call 20; go_loud (with_reducible refine hS9.mono ?_); rintro e w10 ⟨rfl, hx10⟩)
        go_ret
        exact ⟨rfl, HEt.out.trans ((hx8.trans hx9).trans hx10)⟩
      · obtain ⟨y0, y1, rest, hyy⟩ : ∃ y0 y1 rest, ys = y0 :: y1 :: rest := by
          have hl := HFA.out.2.2.2.1
          cases ys with
          | nil => simp at hl; omega
          | cons y0 t =>
            cases t with
            | nil => simp at hl; omega
            | cons y1 rest => exact ⟨y0, y1, rest, rfl⟩
        subst hyy
        have HXL : Hid (xs.length = rest.length + 2) := Lib.hid (by have := HFA.out.2.2.2.1; simp at this; omega)
        have hri := HRt.out
        obtain ⟨b', o', eb, -, -, -, i1⟩ := it_at hri.1 1 (by simp)
        injection eb with eb
        injection eb with eb eo
        subst eb eo
        obtain ⟨A, c, hsh⟩ := (hri.2 y1 (by simp)).shape
        have hy1 := HFA.out.1.2 y1 (by simp)
        have hle := HFA.out.2.1 y1 (by simp)
        have hown := HFA.out.2.2.2.2 y1 (by simp)
        simp only [List.getElem_cons_succ, List.getElem_cons_zero, Nat.zero_add, Nat.one_mul, Nat.reduceAdd] at i1
        obtain ⟨y1i, y1l, y1v, y1f⟩ := y1
        simp only at hsh i1 hy1 hle hown
        subst hsh
        have HY1 := Lib.hid hy1.2.2.2.2
        have HOW := Lib.hid hown
        have l1 := World.block_lt_of_cell? wA _ i1
        have l2 := World.block_lt_of_cell? wA _ qA2
        clear hri bA hy1 hown
        go_upto_region 12 with (fail)
        refine Rp.wp_regionTE [0] [(0, .y), (1, .y), (2, .y), (3, .y), (4, .y), (5, .y), (6, .y), (7, .m)] [8, 9, 10, 11] (fun _ => (.cells #[.int .i64 p2] 3, fun p => .slice (some ⟨p, 0, none⟩) 1 1)) (fun c a d v w h => by have h' : _ ∧ _ := h; exact ⟨(Rr.put_defers a d v).symm.trans h'.1, h'.2⟩) (by kernel_rfl) (by kernel_rfl) ?_
        (refine Rr.wr_y (by simp only [List.getElem?_toArray, List.getElem?_cons_succ, List.getElem?_cons_zero]; rfl) (by rfl) ?_
         apply Exists.intro
         refine ⟨fun wz hw _ => ?_, ?_⟩
         · have hcz := hw.cells.1
           go_simp
           (with_reducible exact Rg.up_value)
         simp only [Act.put, List.setIfInBounds_toArray, List.set_cons_zero, List.set_cons_succ])
        (refine Rr.wr_y (by simp only [List.getElem?_toArray, List.getElem?_cons_succ, List.getElem?_cons_zero]; rfl) (by rfl) ?_
         apply Exists.intro
         refine ⟨fun wz hw _ => ?_, ?_⟩
         · have hcz := hw.cells.1
           go_simp
           (with_reducible exact Rg.up_value)
         simp only [Act.put, List.setIfInBounds_toArray, List.set_cons_zero, List.set_cons_succ])
        (refine Rr.wr_y (by simp only [List.getElem?_toArray, List.getElem?_cons_succ, List.getElem?_cons_zero]; rfl) (by rfl) ?_
         apply Exists.intro
         refine ⟨fun wz hw _ => ?_, ?_⟩
         · have hcz := hw.cells.1
           go_simp
           (with_reducible exact Rg.up_value)
         simp only [Act.put, List.setIfInBounds_toArray, List.set_cons_zero, List.set_cons_succ])
        (refine Rr.wr_y (by simp only [List.getElem?_toArray, List.getElem?_cons_succ, List.getElem?_cons_zero]; rfl) (by rfl) ?_
         apply Exists.intro
         refine ⟨fun wz hw _ => ?_, ?_⟩
         · have hcz := hw.cells.1
           go_simp
           (with_reducible exact Rg.up_value)
         simp only [Act.put, List.setIfInBounds_toArray, List.set_cons_zero, List.set_cons_succ])
        (refine Rr.wr_y (by simp only [List.getElem?_toArray, List.getElem?_cons_succ, List.getElem?_cons_zero]; rfl) (by rfl) ?_
         apply Exists.intro
         refine ⟨fun wz hw _ => ?_, ?_⟩
         · have hcz := hw.cells.1
           go_simp
           (with_reducible exact Rg.up_value)
         simp only [Act.put, List.setIfInBounds_toArray, List.set_cons_zero, List.set_cons_succ])
        (refine Rr.wr_y (by simp only [List.getElem?_toArray, List.getElem?_cons_succ, List.getElem?_cons_zero]; rfl) (by rfl) ?_
         apply Exists.intro
         refine ⟨fun wz hw _ => ?_, ?_⟩
         · have hcz := hw.cells.1
           go_simp
           (with_reducible exact Rg.up_value)
         simp only [Act.put, List.setIfInBounds_toArray, List.set_cons_zero, List.set_cons_succ])
        (refine Rr.wr_y (by simp only [List.getElem?_toArray, List.getElem?_cons_succ, List.getElem?_cons_zero]; rfl) (by rfl) ?_
         apply Exists.intro
         refine ⟨fun wz hw _ => ?_, ?_⟩
         · have hcz := hw.cells.1
           go_simp
           (with_reducible exact Rg.up_value)
         simp only [Act.put, List.setIfInBounds_toArray, List.set_cons_zero, List.set_cons_succ])
        refine Rr.wr_m (by simp only [List.getElem?_toArray, List.getElem?_cons_succ, List.getElem?_cons_zero]; rfl) (by rfl) (fun wz => by go_simp) (fun q hq => ?_)
        simp only [Act.put, List.setIfInBounds_toArray, List.set_cons_zero, List.set_cons_succ]
        refine Rr.wr_nil ?_
        intro wy hy hh
        obtain ⟨hb1, hb2⟩ := hh _ List.mem_cons_self
        simp only [List.filterMap_cons, List.filterMap_nil, List.getElem?_cons_succ, List.getElem?_cons_zero]
        have hBy : w1.heap.size ≤ wy.heap.size := by have := HLO.out; have := hkA.out.size; have := hy.size; omega
        refine append_g (cs := celI) (z := .int .i64 0) 28 3 8 Try.underlying28 (by kernel_rfl) (by rfl) (by decide) (by decide) rfl (.tmp 89) (.tmp 92) rfl w1.heap.size (.slice A y1f.length c) y1f (by rfl) (row_ext HY1.out hy) q p2 (celI_len _) (by rfl) hb2 (by omega) hBy ?_
        intro g cap' w9 hr9 hg9 hat
        have hX9 : w9.ownsRow w1.heap.size 32 3 (.slice (some ⟨gb, 0, none⟩) xs.length cx) _ _ := World.ownsRow.kept (row_ext HFA.out.1.1 hy) hg9 (by
          rcases row_ne (row_ext HY1.out hy) (row_ext HFA.out.1.1 hy) (by decide) with e | e
          · refine .inr (by rw [e]; simp [Value.ownBlock])
          · exact .inr (fun q => e q.symm))
        have hX8 : w9.ownsRow w1.heap.size 32 3 (.slice (some ⟨gb, 0, none⟩) (rest.length + 2) cx) (rest.length + 2) ((y0 :: ⟨y1i, y1l, .slice A y1f.length c, y1f⟩ :: rest).flatMap It.cs) := by
          have := hX9
          rw [HXL.out] at this
          exact this
        have f9 : w9.frozen? ⟨gb, 5, none⟩ = false := World.ownsRow.frozenAt hX8 5
        have q9 : w9.cell? ⟨gb, 5, none⟩ = some (.slice A y1f.length c) := by
          rw [World.ownsRow.cellAt hX8 5 (by omega)]; rfl
        clear hX8
        have HX9 := Lib.hid hX9; have HR9 := Lib.hid hr9; have HG9 := Lib.hid hg9; have HY9 := Lib.hid hy
        clear hX9 hr9 hg9 hh hb2 i1 qA2 hat
        go_upto_region 13 with (fail)
        have HFt : Hid (FewS w1.heap.size (w9.setCell ⟨gb, 5, none⟩ (.slice (some ⟨g, 0, none⟩) (y1f.length + 1) cap')) (.slice (some ⟨gb, 0, none⟩) xs.length cx) (y0 :: ⟨y1i, y1l, .slice (some ⟨g, 0, none⟩) (y1f.length + 1) cap', y1f ++ [p2]⟩ :: rest)) := Lib.hid (by
          have hF := HFA.out
          have hR := HR9.out
          rw [HXL.out] at hF ⊢
          exact FewS.set_frm (x1 := ⟨y1i, y1l, .slice A y1f.length c, y1f⟩) ⟨row_ext hF.1.1 HY9.out, fun x hx => ⟨(hF.1.2 x hx).1, (hF.1.2 x hx).2.1, (hF.1.2 x hx).2.2.1, (hF.1.2 x hx).2.2.2.1, row_ext (hF.1.2 x hx).2.2.2.2 HY9.out⟩⟩ hF.2.2.1 HP2.out (by simp; omega) hR HG9.out)
        have hk : KB w1.heap.size w2.heap.size w7 (w9.setCell ⟨gb, 5, none⟩ (.slice (some ⟨g, 0, none⟩) (y1f.length + 1) cap')) := by
          refine (hkA.out.trans (KB.of HY9.out)).trans ⟨HG9.out.os, HG9.out.tape, HG9.out.output, by rw [World.size_setCell]; exact HG9.out.size, fun k hk hn => ?_⟩
          have a1 := hgb
          have a2 := hgb2
          rw [heap_setCell_other w9 _ k _ (by intro e; first | (have e' : k = gb := e; omega) | (have e' : gb = k := e; omega))]
          refine HG9.out.block k hk (fun e => ?_)
          have h1 := HOW.out k e.symm
          have h2 := (World.ownsRow.lt HY1.out k e.symm).1
          omega
        clear q9 f9
        generalize (⟨y1i, y1l, .slice (some ⟨g, 0, none⟩) (y1f.length + 1) cap', y1f ++ [p2]⟩ : It) = yn at *
        generalize w9.setCell ⟨gb, 5, none⟩ (.slice (some ⟨g, 0, none⟩) (y1f.length + 1) cap') = wt at *
        have HRt : Hid (RI wt (.slice (some ⟨gb, 0, none⟩) xs.length cx) (y0 :: yn :: rest)) := Lib.hid (HFt.out.ri' (by have := HXL.out; simp; omega))
        generalize hyz : (y0 :: yn :: rest) = yz at *
        have HMt := Lib.hid ((KB.mess hk HS7.out).rm (by omega) (by omega))
        have HAt : Hid (IRd wt (.slice (some ⟨pa, 0, none⟩) 2 2) [d3, 4]) := Lib.hid (KB.ird hk HA7.out HLO.out.2.1 (by simp))
        have bt : wt.heap[pb]? = _ := (hk.block pb (Rg.lt_of_heap HB7.out) (.inl HLO.out.1)).trans HB7.out
        have HBt := Lib.hid bt
        have HEt : Hid (Ext w wt) := Lib.hid (Below.trans HE7.out (hk.below HLO.out.2.2.2.1 HE7.out.size))
        have t1 := cell_of_row wt pb 1 _ _ _ bt
        clear hk bt
        go_upto_region 14 with (go_at_call 18; go_loud (with_reducible refine (Check_any yz ms [d3, 4] p1 _ _ _ _ HRt.out HMt.out HAt.out HP1.out).mono ?_); rintro e w8 ⟨r8, rfl, hr8, hx8⟩; obtain ⟨b8, c8, rfl⟩ := hr8.1.form)
        have q81 := cell_of_row w8 pb 1 _ _ _ ((hx8.block _ (Rg.lt_of_heap HBt.out)).trans HBt.out)
        clear t1
        go_upto_region 15 with (go_at_call 19; go_loud (with_reducible refine (refCheck_any yz ms [d3, 4] p1 _ _ _ _ (HRt.out.ext hx8) (HMt.out.ext hx8) (HAt.out.ext hx8)).mono ?_); rintro e w9 ⟨r9, rfl, hr9, hx9⟩; obtain ⟨b9, c9, rfl⟩ := hr9.1.form)
        have hS9 := SameAll_any _ _ _ _ w9 (hr8.ext hx9) hr9
        rw [sameL_self] at hS9
        generalize (chk yz ms [d3, 4] p1).1.length = nz at *
        generalize (chk yz ms [d3, 4] p1).2 = kz at *
        go_wp2_with (go_at_call 20; go_loud (with_reducible refine hS9.mono ?_); rintro e w10 ⟨rfl, hx10⟩)
        go_ret
        exact ⟨rfl, HEt.out.trans ((hx8.trans hx9).trans hx10)⟩
    · obtain ⟨x0, rest, hxx⟩ : ∃ x0 rest, xs = x0 :: rest := by
        cases xs with
        | nil => simp at h1
        | cons x0 rest => exact ⟨x0, rest, rfl⟩
      have HXX := Lib.hid hxx; clear hxx
      obtain ⟨gb, gc, e0, hgb, -⟩ := World.ownsRow.form HF7.out.1.1 (by omega)
      injection e0 with e1 e2 e3
      subst e1 e3
      have hgb2 := HG.out gb rfl
      have hR7 := HF7.out.1.ri' hxl
      have h0 : 0 < xs.length := by omega
      obtain ⟨l, hl⟩ : ∃ l, l = xs.length - 1 := ⟨_, rfl⟩
      have hli : (xs.length : Int) - 1 = (l : Int) := by omega
      have hll : l < xs.length := by omega
      obtain ⟨b', o', eb, -, i0, -, -⟩ := it_at hR7.1 0 h0
      obtain ⟨b'', o'', eb', -, il, -, -⟩ := it_at hR7.1 l hll
      injection eb with eb
      injection eb with eb eo
      injection eb' with eb'
      injection eb' with eb' eo'
      subst eb eo eb' eo'
      have hz := (hR7.2 xs[l] (List.getElem_mem _)).1
      have HZ := Lib.hid hz
      generalize xs[l].id = z at *
      have HL := Lib.hid hl
      have hfz : w7.frozen? ⟨gb, 0, none⟩ = false := World.ownsRow.frozenAt HF7.out.1.1 0
      simp only [Nat.zero_add, Nat.zero_mul] at i0 il
      clear hl hz e2
      go_upto_region 11 with (fail)
      have HFA : Hid (FewS w1.heap.size (w7.setCell ⟨gb, 0, none⟩ (.int .i64 z)) (.slice (some ⟨gb, 0, none⟩) xs.length cx) (⟨z, x0.label, x0.fv, x0.frm⟩ :: rest) ∧ (∀ y ∈ (⟨z, x0.label, x0.fv, x0.frm⟩ :: rest : List It), y.frm.length ≤ 2) ∧ DJ (⟨z, x0.label, x0.fv, x0.frm⟩ :: rest) ∧ (⟨z, x0.label, x0.fv, x0.frm⟩ :: rest : List It).length = xs.length ∧ ∀ x ∈ (⟨z, x0.label, x0.fv, x0.frm⟩ :: rest : List It), ∀ q, x.fv.ownBlock = some q → q < w2.heap.size) := Lib.hid (by
        have hf := HF7.out
        rw [HXX.out] at hf ⊢
        refine ⟨hf.1.set_id HZ.out, fun y hy => ?_, ?_, rfl, fun y hy => ?_⟩
        · rcases List.mem_cons.1 hy with rfl | hy
          · exact hf.2.1 x0 List.mem_cons_self
          · exact hf.2.1 y (List.mem_cons_of_mem _ hy)
        · have := hf.2.2.1
          unfold DJ at this ⊢
          rw [List.pairwise_cons] at this ⊢
          exact this
        · rcases List.mem_cons.1 hy with rfl | hy
          · exact hf.2.2.2 x0 List.mem_cons_self
          · exact hf.2.2.2 y (List.mem_cons_of_mem _ hy))
      have hkA : Hid (KB w1.heap.size w2.heap.size w7 (w7.setCell ⟨gb, 0, none⟩ (.int .i64 z))) := Lib.hid ⟨rfl, rfl, rfl, by rw [World.size_setCell]; exact Nat.le_refl _, fun k hk hn => heap_setCell_other w7 _ k _ (by
        intro e
        have a1 := hgb
        have a2 := hgb2
        first | (have e' : k = gb := e; omega) | (have e' : gb = k := e; omega))⟩
      clear i0 il hfz q72
      generalize w7.setCell ⟨gb, 0, none⟩ (.int .i64 z) = wA at *
      generalize (⟨z, x0.label, x0.fv, x0.frm⟩ :: rest : List It) = ys at *
      have bA := (hkA.out.block pb (Rg.lt_of_heap HB7.out) (.inl HLO.out.1)).trans HB7.out
      have qA2 := cell_of_row wA pb 2 _ _ _ bA
      have HRt : Hid (RI wA (.slice (some ⟨gb, 0, none⟩) xs.length cx) ys) := Lib.hid (HFA.out.1.ri' (by rw [HFA.out.2.2.2.1]; exact hxl))
      by_cases hB : d4 = 0
      · clear bA
        go_upto_region 13 with (fail)
        obtain ⟨wt, hwt⟩ : ∃ wt, wt = wA := ⟨_, rfl⟩
        have hk := hkA.out
        clear qA2
        subst hwt
        have HMt := Lib.hid ((KB.mess hk HS7.out).rm (by omega) (by omega))
        have HAt : Hid (IRd wt (.slice (some ⟨pa, 0, none⟩) 2 2) [d3, 4]) := Lib.hid (KB.ird hk HA7.out HLO.out.2.1 (by simp))
        have bt : wt.heap[pb]? = _ := (hk.block pb (Rg.lt_of_heap HB7.out) (.inl HLO.out.1)).trans HB7.out
        have HBt := Lib.hid bt
        have HEt : Hid (Ext w wt) := Lib.hid (Below.trans HE7.out (hk.below HLO.out.2.2.2.1 HE7.out.size))
        have t1 := cell_of_row wt pb 1 _ _ _ bt
        clear hk bt
        go_upto_region 14 with (go_at_call 18; go_loud (with_reducible refine (Check_any ys ms [d3, 4] p1 _ _ _ _ HRt.out HMt.out HAt.out HP1.out).mono ?_); rintro e w8 ⟨r8, rfl, hr8, hx8⟩; obtain ⟨b8, c8, rfl⟩ := hr8.1.form)
        have q81 := cell_of_row w8 pb 1 _ _ _ ((hx8.block _ (Rg.lt_of_heap HBt.out)).trans HBt.out)
        clear t1
        go_upto_region 15 with (go_at_call 19; go_loud (with_reducible refine (refCheck_any ys ms [d3, 4] p1 _ _ _ _ (HRt.out.ext hx8) (HMt.out.ext hx8) (HAt.out.ext hx8)).mono ?_); rintro e w9 ⟨r9, rfl, hr9, hx9⟩; obtain ⟨b9, c9, rfl⟩ := hr9.1.form)
        have hS9 := SameAll_any _ _ _ _ w9 (hr8.ext hx9) hr9
        rw [sameL_self] at hS9
        generalize (chk ys ms [d3, 4] p1).1.length = nz at *
        generalize (chk ys ms [d3, 4] p1).2 = kz at *
        go_wp2_with (go_at_call 20; go_loud (with_reducible refine hS9.mono ?_); rintro e w10 ⟨rfl, hx10⟩)
        go_ret
        exact ⟨rfl, HEt.out.trans ((hx8.trans hx9).trans hx10)⟩
      · obtain ⟨y0, y1, rest, hyy⟩ : ∃ y0 y1 rest, ys = y0 :: y1 :: rest := by
          have hl := HFA.out.2.2.2.1
          cases ys with
          | nil => simp at hl; omega
          | cons y0 t =>
            cases t with
            | nil => simp at hl; omega
            | cons y1 rest => exact ⟨y0, y1, rest, rfl⟩
        subst hyy
        have HXL : Hid (xs.length = rest.length + 2) := Lib.hid (by have := HFA.out.2.2.2.1; simp at this; omega)
        have hri := HRt.out
        obtain ⟨b', o', eb, -, -, -, i1⟩ := it_at hri.1 1 (by simp)
        injection eb with eb
        injection eb with eb eo
        subst eb eo
        obtain ⟨A, c, hsh⟩ := (hri.2 y1 (by simp)).shape
        have hy1 := HFA.out.1.2 y1 (by simp)
        have hle := HFA.out.2.1 y1 (by simp)
        have hown := HFA.out.2.2.2.2 y1 (by simp)
        simp only [List.getElem_cons_succ, List.getElem_cons_zero, Nat.zero_add, Nat.one_mul, Nat.reduceAdd] at i1
        obtain ⟨y1i, y1l, y1v, y1f⟩ := y1
        simp only at hsh i1 hy1 hle hown
        subst hsh
        have HY1 := Lib.hid hy1.2.2.2.2
        have HOW := Lib.hid hown
        have l1 := World.block_lt_of_cell? wA _ i1
        have l2 := World.block_lt_of_cell? wA _ qA2
        clear hri bA hy1 hown
        go_upto_region 12 with (fail)
        refine Rp.wp_regionTE [0] [(0, .y), (1, .y), (2, .y), (3, .y), (4, .y), (5, .y), (6, .y), (7, .m)] [8, 9, 10, 11] (fun _ => (.cells #[.int .i64 p2] 3, fun p => .slice (some ⟨p, 0, none⟩) 1 1)) (fun c a d v w h => by have h' : _ ∧ _ := h; exact ⟨(Rr.put_defers a d v).symm.trans h'.1, h'.2⟩) (by kernel_rfl) (by kernel_rfl) ?_
        (refine Rr.wr_y (by simp only [List.getElem?_toArray, List.getElem?_cons_succ, List.getElem?_cons_zero]; rfl) (by rfl) ?_
         apply Exists.intro
         refine ⟨fun wz hw _ => ?_, ?_⟩
         · have hcz := hw.cells.1
           go_simp
           (with_reducible exact Rg.up_value)
         simp only [Act.put, List.setIfInBounds_toArray, List.set_cons_zero, List.set_cons_succ])
        (refine Rr.wr_y (by simp only [List.getElem?_toArray, List.getElem?_cons_succ, List.getElem?_cons_zero]; rfl) (by rfl) ?_
         apply Exists.intro
         refine ⟨fun wz hw _ => ?_, ?_⟩
         · have hcz := hw.cells.1
           go_simp
           (with_reducible exact Rg.up_value)
         simp only [Act.put, List.setIfInBounds_toArray, List.set_cons_zero, List.set_cons_succ])
        (refine Rr.wr_y (by simp only [List.getElem?_toArray, List.getElem?_cons_succ, List.getElem?_cons_zero]; rfl) (by rfl) ?_
         apply Exists.intro
         refine ⟨fun wz hw _ => ?_, ?_⟩
         · have hcz := hw.cells.1
           go_simp
           (with_reducible exact Rg.up_value)
         simp only [Act.put, List.setIfInBounds_toArray, List.set_cons_zero, List.set_cons_succ])
        (refine Rr.wr_y (by simp only [List.getElem?_toArray, List.getElem?_cons_succ, List.getElem?_cons_zero]; rfl) (by rfl) ?_
         apply Exists.intro
         refine ⟨fun wz hw _ => ?_, ?_⟩
         · have hcz := hw.cells.1
           go_simp
           (with_reducible exact Rg.up_value)
         simp only [Act.put, List.setIfInBounds_toArray, List.set_cons_zero, List.set_cons_succ])
        (refine Rr.wr_y (by simp only [List.getElem?_toArray, List.getElem?_cons_succ, List.getElem?_cons_zero]; rfl) (by rfl) ?_
         apply Exists.intro
         refine ⟨fun wz hw _ => ?_, ?_⟩
         · have hcz := hw.cells.1
           go_simp
           (with_reducible exact Rg.up_value)
         simp only [Act.put, List.setIfInBounds_toArray, List.set_cons_zero, List.set_cons_succ])
        (refine Rr.wr_y (by simp only [List.getElem?_toArray, List.getElem?_cons_succ, List.getElem?_cons_zero]; rfl) (by rfl) ?_
         apply Exists.intro
         refine ⟨fun wz hw _ => ?_, ?_⟩
         · have hcz := hw.cells.1
           go_simp
           (with_reducible exact Rg.up_value)
         simp only [Act.put, List.setIfInBounds_toArray, List.set_cons_zero, List.set_cons_succ])
        (refine Rr.wr_y (by simp only [List.getElem?_toArray, List.getElem?_cons_succ, List.getElem?_cons_zero]; rfl) (by rfl) ?_
         apply Exists.intro
         refine ⟨fun wz hw _ => ?_, ?_⟩
         · have hcz := hw.cells.1
           go_simp
           (with_reducible exact Rg.up_value)
         simp only [Act.put, List.setIfInBounds_toArray, List.set_cons_zero, List.set_cons_succ])
        refine Rr.wr_m (by simp only [List.getElem?_toArray, List.getElem?_cons_succ, List.getElem?_cons_zero]; rfl) (by rfl) (fun wz => by go_simp) (fun q hq => ?_)
        simp only [Act.put, List.setIfInBounds_toArray, List.set_cons_zero, List.set_cons_succ]
        refine Rr.wr_nil ?_
        intro wy hy hh
        obtain ⟨hb1, hb2⟩ := hh _ List.mem_cons_self
        simp only [List.filterMap_cons, List.filterMap_nil, List.getElem?_cons_succ, List.getElem?_cons_zero]
        have hBy : w1.heap.size ≤ wy.heap.size := by have := HLO.out; have := hkA.out.size; have := hy.size; omega
        refine append_g (cs := celI) (z := .int .i64 0) 28 3 8 Try.underlying28 (by kernel_rfl) (by rfl) (by decide) (by decide) rfl (.tmp 89) (.tmp 92) rfl w1.heap.size (.slice A y1f.length c) y1f (by rfl) (row_ext HY1.out hy) q p2 (celI_len _) (by rfl) hb2 (by omega) hBy ?_
        intro g cap' w9 hr9 hg9 hat
        have hX9 : w9.ownsRow w1.heap.size 32 3 (.slice (some ⟨gb, 0, none⟩) xs.length cx) _ _ := World.ownsRow.kept (row_ext HFA.out.1.1 hy) hg9 (by
          rcases row_ne (row_ext HY1.out hy) (row_ext HFA.out.1.1 hy) (by decide) with e | e
          · refine .inr (by rw [e]; simp [Value.ownBlock])
          · exact .inr (fun q => e q.symm))
        have hX8 : w9.ownsRow w1.heap.size 32 3 (.slice (some ⟨gb, 0, none⟩) (rest.length + 2) cx) (rest.length + 2) ((y0 :: ⟨y1i, y1l, .slice A y1f.length c, y1f⟩ :: rest).flatMap It.cs) := by
          have := hX9
          rw [HXL.out] at this
          exact this
        have f9 : w9.frozen? ⟨gb, 5, none⟩ = false := World.ownsRow.frozenAt hX8 5
        have q9 : w9.cell? ⟨gb, 5, none⟩ = some (.slice A y1f.length c) := by
          rw [World.ownsRow.cellAt hX8 5 (by omega)]; rfl
        clear hX8
        have HX9 := Lib.hid hX9; have HR9 := Lib.hid hr9; have HG9 := Lib.hid hg9; have HY9 := Lib.hid hy
        clear hX9 hr9 hg9 hh hb2 i1 qA2 hat
        go_upto_region 13 with (fail)
        have HFt : Hid (FewS w1.heap.size (w9.setCell ⟨gb, 5, none⟩ (.slice (some ⟨g, 0, none⟩) (y1f.length + 1) cap')) (.slice (some ⟨gb, 0, none⟩) xs.length cx) (y0 :: ⟨y1i, y1l, .slice (some ⟨g, 0, none⟩) (y1f.length + 1) cap', y1f ++ [p2]⟩ :: rest)) := Lib.hid (by
          have hF := HFA.out
          have hR := HR9.out
          rw [HXL.out] at hF ⊢
          exact FewS.set_frm (x1 := ⟨y1i, y1l, .slice A y1f.length c, y1f⟩) ⟨row_ext hF.1.1 HY9.out, fun x hx => ⟨(hF.1.2 x hx).1, (hF.1.2 x hx).2.1, (hF.1.2 x hx).2.2.1, (hF.1.2 x hx).2.2.2.1, row_ext (hF.1.2 x hx).2.2.2.2 HY9.out⟩⟩ hF.2.2.1 HP2.out (by simp; omega) hR HG9.out)
        have hk : KB w1.heap.size w2.heap.size w7 (w9.setCell ⟨gb, 5, none⟩ (.slice (some ⟨g, 0, none⟩) (y1f.length + 1) cap')) := by
          refine (hkA.out.trans (KB.of HY9.out)).trans ⟨HG9.out.os, HG9.out.tape, HG9.out.output, by rw [World.size_setCell]; exact HG9.out.size, fun k hk hn => ?_⟩
          have a1 := hgb
          have a2 := hgb2
          rw [heap_setCell_other w9 _ k _ (by intro e; first | (have e' : k = gb := e; omega) | (have e' : gb = k := e; omega))]
          refine HG9.out.block k hk (fun e => ?_)
          have h1 := HOW.out k e.symm
          have h2 := (World.ownsRow.lt HY1.out k e.symm).1
          omega
        clear q9 f9
        generalize (⟨y1i, y1l, .slice (some ⟨g, 0, none⟩) (y1f.length + 1) cap', y1f ++ [p2]⟩ : It) = yn at *
        generalize w9.setCell ⟨gb, 5, none⟩ (.slice (some ⟨g, 0, none⟩) (y1f.length + 1) cap') = wt at *
        have HRt : Hid (RI wt (.slice (some ⟨gb, 0, none⟩) xs.length cx) (y0 :: yn :: rest)) := Lib.hid (HFt.out.ri' (by have := HXL.out; simp; omega))
        generalize hyz : (y0 :: yn :: rest) = yz at *
        have HMt := Lib.hid ((KB.mess hk HS7.out).rm (by omega) (by omega))
        have HAt : Hid (IRd wt (.slice (some ⟨pa, 0, none⟩) 2 2) [d3, 4]) := Lib.hid (KB.ird hk HA7.out HLO.out.2.1 (by simp))
        have bt : wt.heap[pb]? = _ := (hk.block pb (Rg.lt_of_heap HB7.out) (.inl HLO.out.1)).trans HB7.out
        have HBt := Lib.hid bt
        have HEt : Hid (Ext w wt) := Lib.hid (Below.trans HE7.out (hk.below HLO.out.2.2.2.1 HE7.out.size))
        have t1 := cell_of_row wt pb 1 _ _ _ bt
        clear hk bt
        go_upto_region 14 with (go_at_call 18; go_loud (with_reducible refine (Check_any yz ms [d3, 4] p1 _ _ _ _ HRt.out HMt.out HAt.out HP1.out).mono ?_); rintro e w8 ⟨r8, rfl, hr8, hx8⟩; obtain ⟨b8, c8, rfl⟩ := hr8.1.form)
        have q81 := cell_of_row w8 pb 1 _ _ _ ((hx8.block _ (Rg.lt_of_heap HBt.out)).trans HBt.out)
        clear t1
        go_upto_region 15 with (go_at_call 19; go_loud (with_reducible refine (refCheck_any yz ms [d3, 4] p1 _ _ _ _ (HRt.out.ext hx8) (HMt.out.ext hx8) (HAt.out.ext hx8)).mono ?_); rintro e w9 ⟨r9, rfl, hr9, hx9⟩; obtain ⟨b9, c9, rfl⟩ := hr9.1.form)
        have hS9 := SameAll_any _ _ _ _ w9 (hr8.ext hx9) hr9
        rw [sameL_self] at hS9
        generalize (chk yz ms [d3, 4] p1).1.length = nz at *
        generalize (chk yz ms [d3, 4] p1).2 = kz at *
        go_wp2_with (go_at_call 20; go_loud (with_reducible refine hS9.mono ?_); rintro e w10 ⟨rfl, hx10⟩)
        go_ret
        exact ⟨rfl, HEt.out.trans ((hx8.trans hx9).trans hx10)⟩
  · obtain ⟨wt, hwt⟩ : ∃ wt, wt = w7 := ⟨_, rfl⟩
    obtain ⟨ys, hys⟩ : ∃ ys, ys = xs := ⟨_, rfl⟩
    have HRt : Hid (RI wt (.slice bx xs.length cx) ys) := Lib.hid (by rw [hwt, hys]; exact HF7.out.1.ri' hxl)
    have hk : KB w1.heap.size w2.heap.size w7 wt := hwt ▸ KB.of (Ext.refl _)
    rw [← hwt]
    clear hwt hys
    have HMt := Lib.hid ((KB.mess hk HS7.out).rm (by omega) (by omega))
    have HAt : Hid (IRd wt (.slice (some ⟨pa, 0, none⟩) 2 2) [d3, 4]) := Lib.hid (KB.ird hk HA7.out HLO.out.2.1 (by simp))
    have bt : wt.heap[pb]? = _ := (hk.block pb (Rg.lt_of_heap HB7.out) (.inl HLO.out.1)).trans HB7.out
    have HBt := Lib.hid bt
    have HEt : Hid (Ext w wt) := Lib.hid (Below.trans HE7.out (hk.below HLO.out.2.2.2.1 HE7.out.size))
    have t1 := cell_of_row wt pb 1 _ _ _ bt
    clear hk bt
    go_upto_region 14 with (go_at_call 18; go_loud (with_reducible refine (Check_any ys ms [d3, 4] p1 _ _ _ _ HRt.out HMt.out HAt.out HP1.out).mono ?_); rintro e w8 ⟨r8, rfl, hr8, hx8⟩; obtain ⟨b8, c8, rfl⟩ := hr8.1.form)
    have q81 := cell_of_row w8 pb 1 _ _ _ ((hx8.block _ (Rg.lt_of_heap HBt.out)).trans HBt.out)
    clear t1
    go_upto_region 15 with (go_at_call 19; go_loud (with_reducible refine (refCheck_any ys ms [d3, 4] p1 _ _ _ _ (HRt.out.ext hx8) (HMt.out.ext hx8) (HAt.out.ext hx8)).mono ?_); rintro e w9 ⟨r9, rfl, hr9, hx9⟩; obtain ⟨b9, c9, rfl⟩ := hr9.1.form)
    have hS9 := SameAll_any _ _ _ _ w9 (hr8.ext hx9) hr9
    rw [sameL_self] at hS9
    generalize (chk ys ms [d3, 4] p1).1.length = nz at *
    generalize (chk ys ms [d3, 4] p1).2 = kz at *
    go_wp2_with (go_at_call 20; go_loud (with_reducible refine hS9.mono ?_); rintro e w10 ⟨rfl, hx10⟩)
    go_ret
    exact ⟨rfl, HEt.out.trans ((hx8.trans hx9).trans hx10)⟩

end Go.Proofs.Ythdhlocoiipbaaa
