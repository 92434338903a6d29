/-
  Lemmas of this claim (JtAQ). Nothing is asked.
-/
import Derived.Test.YteomcpplajeidaaGreatJtAO
import Derived.Test.YteomcpplajeidaaGreatJtAP
namespace Go.Proofs.YteomcpplajeidaaGreat
set_option linter.unusedVariables false
set_option linter.unusedSimpArgs false
set_option maxRecDepth 100000
open Go.RowKit
def SortAt (w0 : World) (recv : Value) (cmp : Sc → Sc → Int) (zs : List Sc) : Prop :=
  ∀ g n c w, zs.length = n → SO w0 w w g n c zs → Calls Tryz.prog 39 #[.slice (some ⟨g, 0, none⟩) n c, .func (.func 40) #[recv] #[]] w fun e w' => e = .returned (.tuple #[]) ∧ SO w0 w w' g n c (isort (ltC cmp) zs)
theorem SO.refl {w0 w : World} {g n c : Nat} {zs : List Sc} (hlow : Ext w0 w) (hr : w.ownsRow w0.heap.size 100 7 (.slice (some ⟨g, 0, none⟩) n c) n (zs.flatMap Sc.cs)) : SO w0 w w g n c zs := ⟨hlow, hr, KX.of_ext (Ext.refl w)⟩
theorem sort_row {w0 w : World} {recv v : Value} {cmp : Sc → Sc → Int} {zs : List Sc} (hS : SortAt w0 recv cmp zs) (hlow : Ext w0 w) (hr : w.ownsRow w0.heap.size 100 7 v zs.length (zs.flatMap Sc.cs)) :
    Calls Tryz.prog 39 #[v, .func (.func 40) #[recv] #[]] w fun e w' => e = .returned (.tuple #[]) ∧ Ext w0 w' ∧ w'.ownsRow w0.heap.size 100 7 v zs.length ((isort (ltC cmp) zs).flatMap Sc.cs) ∧ w.grownBy w' v.ownBlock := by
  by_cases h0 : zs = []
  · subst h0
    obtain ⟨b, c, rfl⟩ := row_form hr
    refine (sort_nil b c _ w).mono ?_
    rintro e w' ⟨rfl, hx⟩
    exact ⟨rfl, hlow.trans hx, row_ext hr hx, ⟨hx.os, hx.tape, hx.output, hx.size, fun k hk _ => hx.block k hk⟩⟩
  · have hp : 0 < zs.length := List.length_pos_iff.2 h0
    obtain ⟨g, cap, rfl, -, -⟩ := hr.form hp
    refine (hS g zs.length cap w rfl (SO.refl hlow hr)).mono ?_
    rintro e w' ⟨rfl, h⟩
    exact ⟨rfl, h.low, h.own, h.kx⟩
theorem admit_en {w : World} {r : TnR} {T : TP} (h : TV w r T) (x : ER) (hx : VRd All w x.1.vs (slV x.2)) : Calls Tryz.prog 22 #[.agg (tenC r), .agg (cellsEn x).toArray] w fun e w' => e = .returned (.int .i64 (admF r T x.1)) ∧ Ext w w' :=
  Admit_any r x.1.bid x.1.lot x.1.rec_ x.1.price x.2 T.ls T.cs T.rs x.1.vs w h.h1 h.h2 h.h3 hx
theorem points_en {w : World} {r : TnR} {T : TP} (h : TV w r T) (x : ER) (hx : VRd All w x.1.vs (slV x.2)) (ho : OkE x.1) (lw : Int) (hl : OkI lw) : Calls Tryz.prog 23 #[.agg (tenC r), .agg (cellsEn x).toArray, .int .i64 lw] w fun e w' => e = .returned (rev (ptsF T lw x.1)) ∧ Ext w w' :=
  points_any x.1.vs T.f x.1.price lw ho.price hl w _ _ _ _ _ _ _ _ _ _ _ _ _ _ _ _ _ _ _ _ _ _ _ _ h.h5 hx ho.vl
theorem low_ok (r : TnR) (T : TP) : ∀ (own : List ER) (q : Int × Bool), OkI q.1 → (∀ x ∈ own, OkE x.1) → OkI (own.foldl (lowStep r T) q).1
  | [], q, h, _ => h
  | x :: l, q, h, ho => by
    rw [List.foldl_cons]
    refine low_ok r T l _ ?_ (fun y hy => ho y (List.mem_cons_of_mem _ hy))
    unfold lowStep
    split
    · exact (ho x List.mem_cons_self).price
    · exact h
set_option maxHeartbeats 32000000 in
theorem Rank_any (r : TnR) (T : TP) (lot : Int) (v : Value) (xs : List ER) (w : World) (h : TV w r T) (hv : XR w v xs) (hxl : xs.length ≤ 100000)
    (hS : errE T.ls lot (ownE lot xs) = 0 → ∀ w0 recv, CmpAt w0 recv (cmpS T.cs T.ts) (goodF r T (lowF r T (ownE lot xs)) (ownE lot xs)) → SortAt w0 recv (cmpS T.cs T.ts) (goodF r T (lowF r T (ownE lot xs)) (ownE lot xs))) :
    Calls Tryz.prog 15 #[.agg (tenC r), .int .i64 lot, v] w fun e w' => ∃ v', e = .returned (.tuple #[v', .int .i64 (errE T.ls lot (ownE lot xs))]) ∧ Ext w w' ∧ w'.ownsRow w.heap.size 62 5 v' (rankL r T lot xs).length ((rankL r T lot xs).flatMap Rk.cs) := by
  have hx1 : Ext w (w.alloc (.cells (tenC r) 39)) := Ext.alloc (Ext.refl _) _
  have g3 : (w.alloc (.cells (tenC r) 39)).heap[w.heap.size]? = some (.cells (tenC r) 39) := block_new rfl
  obtain ⟨row, hrow⟩ : ∃ row, row = (tenC r).toList := ⟨_, rfl⟩
  have hrs : row.length = 20 := by rw [hrow]; rfl
  have hrt : row.toArray = tenC r := by rw [hrow]
  have hxok : ∀ x ∈ ownE lot xs, OkE x.1 ∧ VRd All w x.1.vs (slV x.2) := fun x hx => hv.ok x (List.mem_filter.1 hx).1
  have HEN := Lib.hid (fun wz (hw : Ext w wz) => entries_any r T.ls lot v xs wz (h.ext hw).h1 (hv.ext hw).sr (fun x hx => ⟨(hv.ok x hx).1.bid, (hv.ok x hx).1.rec_⟩) hxl)
  have HAD := Lib.hid (fun (x : ER) (hx : x ∈ ownE lot xs) wz (hw : Ext w wz) => admit_en (h.ext hw) x (VRd.ext hw (hxok x hx).2))
  have HPT := Lib.hid (fun (x : ER) (hx : x ∈ ownE lot xs) wz (hw : Ext w wz) lw (hl : OkI lw) => points_en (h.ext hw) x (VRd.ext hw (hxok x hx).2) (hxok x hx).1 lw hl)
  rw [← hrt] at HEN HAD HPT
  obtain ⟨W1, hW1⟩ : ∃ W1, W1 = w.alloc (.cells (tenC r) 39) := ⟨_, rfl⟩
  rw [← hW1] at hx1 g3
  obtain ⟨G3, hG3⟩ : ∃ x, x = w.heap.size := ⟨_, rfl⟩
  rw [← hG3] at g3
  have HRG : Hid (∀ W, Ext W1 W → W.rangeAt G3 0 row ∧ G3 < W.heap.size) := Lib.hid fun W hW => ⟨range_of ((hW.block _ (Rg.lt_of_heap g3)).trans g3) 0 row (fun j v hv => by rw [hrow] at hv; simpa using hv), Rg.lt_of_heap ((hW.block _ (Rg.lt_of_heap g3)).trans g3)⟩
  have HX1 := Lib.hid hx1
  have HT := Lib.hid h; have HV := Lib.hid hv; have HOK := Lib.hid hxok; have HS := Lib.hid hS; have HRT := Lib.hid hrt; have HXL := Lib.hid hxl
  have HG3 := Lib.hid hG3
  have hown : (ownE lot xs).length ≤ 100000 := by
    have := List.length_filter_le (fun x : ER => x.1.lot == lot) xs
    unfold ownE
    omega
  have HOW := Lib.hid hown
  clear h hv hxl hS hrow hrt hxok hx1 hown g3
  go_enter Tryz.func15, Tryz.ntmps15
  go_upto_region 1 with (fail)
  rw [← hW1]
  rw [← hG3]
  clear hW1 hG3
  have l3 := (HRG.out W1 (Ext.refl _)).2
  go_upto_region 2 with (first
    | (refine wpList_load_mid rfl 39 (.tmp 3) rfl G3 0 (by rfl) row _ (HRG.out _ (Ext.refl _)).1 Tryz.underlying39 rfl (by rw [hrs]; kernel_rfl) ?_)
    | (go_at_call 38; (with_reducible refine (HEN.out _ HX1.out).mono ?_); rintro e w2 ⟨v', rfl, hx2, ho2⟩; have HX2 := Lib.hid hx2; have HO2 := Lib.hid ho2; clear hx2 ho2))
  by_cases he : errE T.ls lot (ownE lot xs) = 0
  · replace HS := Lib.hid (HS.out he)
    have HE := Lib.hid he
    rw [he]
    have hro := HO2.out he
    clear he HO2
    obtain ⟨own, ho⟩ : ∃ own, own = ownE lot xs := ⟨_, rfl⟩
    rw [← ho] at HAD HPT HOK HS HOW HE hro
    have HOO := Lib.hid ho
    clear ho HEN
    obtain ⟨ob, oc, hof⟩ := row_form hro
    subst hof
    have HSR := Lib.hid (SR.of_row (cs := cellsEn) (fun x => (one_en x).1) hro (by have := HOW.out; omega))
    clear hro
    obtain ⟨lw, hlw⟩ : ∃ lw, lw = lowF r T own := ⟨_, rfl⟩
    rw [← hlw] at HS
    have HLW := Lib.hid hlw
    have hlok : OkI lw := by rw [hlw]; exact low_ok r T own (0, false) ⟨by decide, by decide⟩ (fun x hx => (HOK.out x hx).1)
    have HLO := Lib.hid hlok
    clear hlw hlok
    have hol : own.length ≤ 100000 := HOW.out
    go_upto_region 6 with (fail)
    have HXW := Lib.hid (HX1.out.trans HX2.out)
    go_loopw [10, 11, 35] (fun av bv iv wr => ∃ (i : Nat) (q : Int × Bool), iv = .int .i64 i ∧ i ≤ own.length ∧ av = .int .i64 q.1 ∧ bv = .bool q.2 ∧ Hid (q = (own.take i).foldl (lowStep r T) (0, false)) ∧ Hid (Ext w2 wr)) (fun _ _ iv _ => own.length - (iof iv).toNat)
    case atStart => exact ⟨0, (0, false), rfl, Nat.zero_le _, rfl, rfl, Lib.hid rfl, Lib.hid (Ext.refl _)⟩
    case round =>
      obtain ⟨i, ⟨lo, fd⟩, rfl, hi, rfl, rfl, HQ, HX⟩ := hrel
      by_cases hil : i < own.length
      · obtain ⟨bb, rfl, hcs⟩ := HSR.out.at HX.out i hil
        have HQS : Hid ((own.take (i + 1)).foldl (lowStep r T) (0, false) = lowStep r T (lo, fd) own[i]) := Lib.hid (by rw [List.take_succ_eq_append_getElem hil, List.foldl_append, ← HQ.out]; rfl)
        have HAx := Lib.hid (HAD.out own[i] (List.getElem_mem hil))
        have e0 := hcs 0 _ rfl; have e1 := hcs 1 _ rfl; have e2 := hcs 2 _ rfl; have e3 := hcs 3 _ rfl; have e4 := hcs 4 _ rfl
        clear hcs
        obtain ⟨x, hx⟩ : ∃ x, x = own[i] := ⟨_, rfl⟩
        rw [← hx] at e0 e1 e2 e3 e4 HQS HAx
        clear hx
        obtain ⟨⟨x0, x1, x2, x3, xv⟩, xa, xl, xc⟩ := x
        simp only [Nat.add_zero] at e0 e1 e2 e3 e4
        simp only [cellsEn] at HAx
        have hbl := World.block_lt_of_cell? wr _ e1
        have hili : (i : Int) < (own.length : Int) := by omega
        have HLS : Hid (lowStep r T (lo, fd) (⟨x0, x1, x2, x3, xv⟩, xa, xl, xc) = if admF r T ⟨x0, x1, x2, x3, xv⟩ = 0 ∧ (fd = false ∨ x3 < lo) then (x3, true) else (lo, fd)) := Lib.hid rfl
        generalize admF r T ⟨x0, x1, x2, x3, xv⟩ = ad at *
        go_upto_region 8 with (fail)
        have hxa : Ext wr (wr.alloc (.cells #[.int .i64 x0, .int .i64 x1, .int .i64 x2, .int .i64 x3, .slice xa xl xc] 57)) := Ext.alloc (Ext.refl _) _
        have hb4 : (wr.alloc (.cells #[.int .i64 x0, .int .i64 x1, .int .i64 x2, .int .i64 x3, .slice xa xl xc] 57)).heap[wr.heap.size]? = some (.cells #[.int .i64 x0, .int .i64 x1, .int .i64 x2, .int .i64 x3, .slice xa xl xc] 57) := block_new rfl
        have HXA := Lib.hid (HX.out.trans hxa)
        have HB4 := Lib.hid hb4
        clear hxa hb4 e0 e1 e2 e3 e4 hbl
        obtain ⟨px, hpx⟩ : ∃ x, x = wr.heap.size := ⟨_, rfl⟩
        rw [← hpx] at HB4 ⊢
        clear hpx
        generalize wr.alloc (.cells #[.int .i64 x0, .int .i64 x1, .int .i64 x2, .int .i64 x3, .slice xa xl xc] 57) = w4 at *
        obtain ⟨d0, d1, d2, d3, d4, -⟩ := cells_five HB4.out
        have lpx := Rg.lt_of_heap HB4.out
        by_cases ha : ad = 0
        · subst ha
          cases fd with
          | false =>
            have HQ2 : Hid ((x3, true) = (own.take (i + 1)).foldl (lowStep r T) (0, false)) := Lib.hid (by rw [HQS.out, HLS.out, if_pos ⟨rfl, .inl rfl⟩])
            go_wp2_with (first
              | (refine wpList_load_mid rfl 39 (.tmp 3) rfl G3 0 (by rfl) row _ (HRG.out _ (HX2.out.trans HXA.out)).1 Tryz.underlying39 rfl (by rw [hrs]; kernel_rfl) ?_)
              | (go_at_call 22; (with_reducible refine (HAx.out _ (HXW.out.trans HXA.out)).mono ?_); rintro e w5 ⟨rfl, hx5⟩; have HX5 := Lib.hid (HXA.out.trans hx5); have HB5 := Lib.hid ((hx5.block _ (Rg.lt_of_heap HB4.out)).trans HB4.out); clear hx5 d0 d1 d2 d3 d4; obtain ⟨d0, d1, d2, d3, d4, -⟩ := cells_five HB5.out; have lpx5 := Rg.lt_of_heap HB5.out))
            exact ⟨⟨i + 1, (x3, true), by rfl, by omega, by rfl, by rfl, HQ2, HX5⟩, by simp [iof]; omega⟩
          | true =>
            by_cases hlt : x3 < lo
            · have HQ2 : Hid ((x3, true) = (own.take (i + 1)).foldl (lowStep r T) (0, false)) := Lib.hid (by rw [HQS.out, HLS.out, if_pos ⟨rfl, .inr hlt⟩])
              go_wp2_with (first
                | (refine wpList_load_mid rfl 39 (.tmp 3) rfl G3 0 (by rfl) row _ (HRG.out _ (HX2.out.trans HXA.out)).1 Tryz.underlying39 rfl (by rw [hrs]; kernel_rfl) ?_)
                | (go_at_call 22; (with_reducible refine (HAx.out _ (HXW.out.trans HXA.out)).mono ?_); rintro e w5 ⟨rfl, hx5⟩; have HX5 := Lib.hid (HXA.out.trans hx5); have HB5 := Lib.hid ((hx5.block _ (Rg.lt_of_heap HB4.out)).trans HB4.out); clear hx5 d0 d1 d2 d3 d4; obtain ⟨d0, d1, d2, d3, d4, -⟩ := cells_five HB5.out; have lpx5 := Rg.lt_of_heap HB5.out))
              exact ⟨⟨i + 1, (x3, true), by rfl, by omega, by rfl, by rfl, HQ2, HX5⟩, by simp [iof]; omega⟩
            · have HQ2 : Hid ((lo, true) = (own.take (i + 1)).foldl (lowStep r T) (0, false)) := Lib.hid (by rw [HQS.out, HLS.out, if_neg (fun h => h.2.elim (fun h => by cases h) hlt)])
              go_wp2_with (first
                | (refine wpList_load_mid rfl 39 (.tmp 3) rfl G3 0 (by rfl) row _ (HRG.out _ (HX2.out.trans HXA.out)).1 Tryz.underlying39 rfl (by rw [hrs]; kernel_rfl) ?_)
                | (go_at_call 22; (with_reducible refine (HAx.out _ (HXW.out.trans HXA.out)).mono ?_); rintro e w5 ⟨rfl, hx5⟩; have HX5 := Lib.hid (HXA.out.trans hx5); have HB5 := Lib.hid ((hx5.block _ (Rg.lt_of_heap HB4.out)).trans HB4.out); clear hx5 d0 d1 d2 d3 d4; obtain ⟨d0, d1, d2, d3, d4, -⟩ := cells_five HB5.out; have lpx5 := Rg.lt_of_heap HB5.out))
              exact ⟨⟨i + 1, (lo, true), by rfl, by omega, by rfl, by rfl, HQ2, HX5⟩, by simp [iof]; omega⟩
        · have had : (ad == 0) = false := by rw [beq_eq_false_iff_ne]; exact ha
          have HQ2 : Hid ((lo, fd) = (own.take (i + 1)).foldl (lowStep r T) (0, false)) := Lib.hid (by rw [HQS.out, HLS.out, if_neg (fun h => ha h.1)])
          go_wp2_with (first
            | (refine wpList_load_mid rfl 39 (.tmp 3) rfl G3 0 (by rfl) row _ (HRG.out _ (HX2.out.trans HXA.out)).1 Tryz.underlying39 rfl (by rw [hrs]; kernel_rfl) ?_)
            | (go_at_call 22; (with_reducible refine (HAx.out _ (HXW.out.trans HXA.out)).mono ?_); rintro e w5 ⟨rfl, hx5⟩; have HX5 := Lib.hid (HXA.out.trans hx5); have HB5 := Lib.hid ((hx5.block _ (Rg.lt_of_heap HB4.out)).trans HB4.out); clear hx5 d0 d1 d2 d3 d4; obtain ⟨d0, d1, d2, d3, d4, -⟩ := cells_five HB5.out; have lpx5 := Rg.lt_of_heap HB5.out))
          exact ⟨⟨i + 1, (lo, fd), by rfl, by omega, by rfl, by rfl, HQ2, HX5⟩, by simp [iof]; omega⟩
      · obtain rfl : i = own.length := by omega
        have hll : lo = lw := by
          have h1 := HQ.out
          rw [List.take_length] at h1
          have h2 := congrArg Prod.fst h1
          rw [HLW.out]
          exact h2
        subst hll
        obtain ⟨W3, hW3⟩ : ∃ W3, W3 = wr := ⟨_, rfl⟩
        rw [← hW3] at HX ⊢
        clear hW3 HQ hi hil
        go_upto_region 14 with (fail)
        go_loopw [14, 15, 58] (fun gv ov iv wr => ∃ i : Nat, iv = .int .i64 i ∧ i ≤ own.length ∧ Hid (wr.ownsRow w2.heap.size 100 7 gv (goodF r T lo (own.take i)).length ((goodF r T lo (own.take i)).flatMap Sc.cs)) ∧ Hid (wr.ownsRow w2.heap.size 62 5 ov (outF r T lo (own.take i)).length ((outF r T lo (own.take i)).flatMap Rk.cs)) ∧ Hid (Ext w2 wr)) (fun _ _ iv _ => own.length - (iof iv).toNat)
        case atStart => exact ⟨0, rfl, Nat.zero_le _, Lib.hid (World.ownsRow_nil _ _ _ _), Lib.hid (World.ownsRow_nil _ _ _ _), HX⟩
        case round =>
          obtain ⟨i, rfl, hi, HG, HO, HXr⟩ := hrel
          by_cases hil : i < own.length
          · obtain ⟨bb, rfl, hcs⟩ := HSR.out.at HXr.out i hil
            have HTG : Hid (goodF r T lo (own.take (i + 1)) = goodF r T lo (own.take i) ++ (if badF r T lo own[i].1 == 0 then [⟨own[i].1, own[i].2, (ptsF T lo own[i].1).1⟩] else [])) := Lib.hid (by
              unfold goodF
              rw [List.take_succ_eq_append_getElem hil, List.filter_append, List.map_append, List.filter_cons, List.filter_nil]
              split <;> rfl)
            have HTO : Hid (outF r T lo (own.take (i + 1)) = outF r T lo (own.take i) ++ (if badF r T lo own[i].1 == 0 then [] else [⟨own[i].1.bid, (0, 0), 0, badF r T lo own[i].1⟩])) := Lib.hid (by
              unfold outF
              rw [List.take_succ_eq_append_getElem hil, List.filter_append, List.map_append, List.filter_cons, List.filter_nil]
              cases (badF r T lo own[i].1 == 0) <;> rfl)
            have HAx := Lib.hid (HAD.out own[i] (List.getElem_mem hil))
            have HPx := Lib.hid (fun wz (hw : Ext w wz) => HPT.out own[i] (List.getElem_mem hil) wz hw lo HLO.out)
            have e0 := hcs 0 _ rfl; have e1 := hcs 1 _ rfl; have e2 := hcs 2 _ rfl; have e3 := hcs 3 _ rfl; have e4 := hcs 4 _ rfl
            clear hcs
            have HBF : Hid (badF r T lo own[i].1 = if admF r T own[i].1 = 0 then (ptsF T lo own[i].1).2 else admF r T own[i].1) := Lib.hid rfl
            have HGL : Hid ((goodF r T lo (own.take i)).length < 1000000 ∧ (outF r T lo (own.take i)).length < 1000000) := Lib.hid (by
              have h1 : (own.take i).length ≤ i := by rw [List.length_take]; omega
              have h2 := List.length_filter_le (fun x : ER => badF r T lo x.1 == 0) (own.take i)
              have h3 := List.length_filter_le (fun x : ER => !(badF r T lo x.1 == 0)) (own.take i)
              unfold goodF outF
              rw [List.length_map, List.length_map]
              omega)
            obtain ⟨x, hx⟩ : ∃ x, x = own[i] := ⟨_, rfl⟩
            rw [← hx] at e0 e1 e2 e3 e4 HTG HTO HAx HPx HBF
            clear hx
            generalize goodF r T lo (own.take i) = gs at *
            generalize outF r T lo (own.take i) = os at *
            obtain ⟨⟨x0, x1, x2, x3, xv⟩, xa, xl, xc⟩ := x
            simp only [Nat.add_zero] at e0 e1 e2 e3 e4
            simp only [cellsEn] at HAx HPx
            simp only at HTG HTO HBF
            have hbl := World.block_lt_of_cell? wr _ e1
            have hili : (i : Int) < (own.length : Int) := by omega
            generalize admF r T ⟨x0, x1, x2, x3, xv⟩ = ad at *
            obtain ⟨⟨⟨p1, p2⟩, pe⟩, hpts⟩ : ∃ p, p = ptsF T lo ⟨x0, x1, x2, x3, xv⟩ := ⟨_, rfl⟩
            rw [← hpts] at HTG HPx HBF
            clear hpts
            generalize badF r T lo ⟨x0, x1, x2, x3, xv⟩ = bad at *
            go_upto_region 16 with (fail)
            have hxa : Ext wr (wr.alloc (.cells #[.int .i64 x0, .int .i64 x1, .int .i64 x2, .int .i64 x3, .slice xa xl xc] 57)) := Ext.alloc (Ext.refl _) _
            have hb4 : (wr.alloc (.cells #[.int .i64 x0, .int .i64 x1, .int .i64 x2, .int .i64 x3, .slice xa xl xc] 57)).heap[wr.heap.size]? = some (.cells #[.int .i64 x0, .int .i64 x1, .int .i64 x2, .int .i64 x3, .slice xa xl xc] 57) := block_new rfl
            have HXA := Lib.hid (HXr.out.trans hxa)
            have HB4 := Lib.hid hb4
            have HG4 := Lib.hid (row_ext HG.out hxa); have HO4 := Lib.hid (row_ext HO.out hxa)
            have HPG : Hid (∀ b, u14.ownBlock = some b → b < wr.heap.size) := Lib.hid fun b e => (HG.out.lt b e).2
            clear hxa hb4 e0 e1 e2 e3 e4 hbl HG HO
            obtain ⟨px, hpx⟩ : ∃ x, x = wr.heap.size := ⟨_, rfl⟩
            rw [← hpx] at HB4 HPG ⊢
            clear hpx
            generalize wr.alloc (.cells #[.int .i64 x0, .int .i64 x1, .int .i64 x2, .int .i64 x3, .slice xa xl xc] 57) = w4 at *
            obtain ⟨d0, d1, d2, d3, d4, -⟩ := cells_five HB4.out
            have lpx := Rg.lt_of_heap HB4.out
            go_upto_region 17 with (first
              | (refine wpList_load_mid rfl 39 (.tmp 3) rfl G3 0 (by rfl) row _ (HRG.out _ (HX2.out.trans HXA.out)).1 Tryz.underlying39 rfl (by rw [hrs]; kernel_rfl) ?_)
              | (go_at_call 22; (with_reducible refine (HAx.out _ (HXW.out.trans HXA.out)).mono ?_); rintro e w5 ⟨rfl, hx5⟩; have HX5 := Lib.hid (HXA.out.trans hx5); have HB5 := Lib.hid ((hx5.block _ (Rg.lt_of_heap HB4.out)).trans HB4.out); have HG5 := Lib.hid (row_ext HG4.out hx5); have HO5 := Lib.hid (row_ext HO4.out hx5); clear hx5 d0 d1 d2 d3 d4 lpx HG4 HO4 HB4 HXA))
            go_upto_region 18 with (fail)
            have hxa : Ext w5 (w5.alloc (.cells #[.int .i64 0, .int .i64 0] 30)) := Ext.alloc (Ext.refl _) _
            have HB6 := Lib.hid ((hxa.block _ (Rg.lt_of_heap HB5.out)).trans HB5.out)
            have HX6 := Lib.hid (HX5.out.trans hxa)
            have HG6 := Lib.hid (row_ext HG5.out hxa); have HO6 := Lib.hid (row_ext HO5.out hxa)
            have HY6 : Hid ((w5.alloc (.cells #[.int .i64 0, .int .i64 0] 30)).heap[w5.heap.size]? = some (.cells #[.int .i64 0, .int .i64 0] 30)) := Lib.hid (block_new rfl)
            have HPY : Hid (∀ b, u14.ownBlock = some b → b < w5.heap.size) := Lib.hid fun b e => (HG5.out.lt b e).2
            have HX5' := Lib.hid HX5.out
            clear hxa HG5 HO5 HB5 HX5
            obtain ⟨py, hpy⟩ : ∃ x, x = w5.heap.size := ⟨_, rfl⟩
            have HPYL : Hid (w2.heap.size ≤ py) := Lib.hid (by rw [hpy]; exact HX5'.out.size)
            rw [← hpy] at HY6 HPY ⊢
            clear hpy
            generalize w5.alloc (.cells #[.int .i64 0, .int .i64 0] 30) = w6 at *
            obtain ⟨d0, d1, d2, d3, d4, -⟩ := cells_five HB6.out
            have lpx := Rg.lt_of_heap HB6.out
            have lpy := Rg.lt_of_heap HY6.out
            by_cases ha : ad = 0
            · subst ha
              rw [if_pos rfl] at HBF
              go_upto_region 20 with (first
                | (refine wpList_load_mid rfl 39 (.tmp 3) rfl G3 0 (by rfl) row _ (HRG.out _ (HX2.out.trans HX6.out)).1 Tryz.underlying39 rfl (by rw [hrs]; kernel_rfl) ?_)
                | (go_at_call 23; (with_reducible refine (HPx.out _ (HXW.out.trans HX6.out)).mono ?_); rintro e w7 ⟨rfl, hx7⟩; have HX7 := Lib.hid (HX6.out.trans hx7); have HB7 := Lib.hid ((hx7.block _ (Rg.lt_of_heap HB6.out)).trans HB6.out); have HY7 := Lib.hid ((hx7.block _ (Rg.lt_of_heap HY6.out)).trans HY6.out); have HG7 := Lib.hid (row_ext HG6.out hx7); have HO7 := Lib.hid (row_ext HO6.out hx7); clear hx7; have y0 : w7.cell? ⟨py, 0, none⟩ = some (.int .i64 0) := cell_of_row w7 py 0 _ _ _ HY7.out; have y1 : w7.cell? ⟨py, 1, none⟩ = some (.int .i64 0) := cell_of_row w7 py 1 _ _ _ HY7.out; have z0 : w7.frozen? ⟨py, 0, none⟩ = false := put_frozen HY7.out; have z1 : w7.frozen? ⟨py, 1, none⟩ = false := put_frozen HY7.out; have ly7 := Rg.lt_of_heap HY7.out))
              have hk8 : KX py w7 ((w7.setCell ⟨py, 0, none⟩ (.int .i64 p1)).setCell ⟨py, 1, none⟩ (.int .i64 p2)) := ((KX.of_ext (Ext.refl w7)).set _).set _
              have HY8 : Hid (((w7.setCell ⟨py, 0, none⟩ (.int .i64 p1)).setCell ⟨py, 1, none⟩ (.int .i64 p2)).heap[py]? = some (.cells #[.int .i64 p1, .int .i64 p2] 30)) := Lib.hid (heap_put _ (heap_put _ HY7.out))
              have hpp : px ≠ py := fun e => by
                have h1 := HB7.out
                rw [e, HY7.out] at h1; cases h1
              have HB8 := Lib.hid (hk8.at HB7.out hpp)
              have HX8 := Lib.hid (ext_grown HX7.out hk8 (fun b e => by
                injection e with e
                have := HPYL.out
                omega))
              have HG8 := Lib.hid (row_move HG7.out (fun b hb hl => hk8.block b hl (fun e => by
                obtain ⟨c1, h1⟩ := row_obj HG7.out hb
                injection e with e
                rw [e, HY7.out] at h1; cases h1)))
              have HO8 := Lib.hid (row_move HO7.out (fun b hb hl => hk8.block b hl (fun e => by
                obtain ⟨c1, h1⟩ := row_obj HO7.out hb
                injection e with e
                rw [e, HY7.out] at h1; cases h1)))
              clear hk8 hpp d0 d1 d2 d3 d4 lpx lpy y0 y1 z0 z1 ly7 HX7 HB7 HY7 HG7 HO7 HX6 HB6 HY6 HG6 HO6
              generalize (w7.setCell ⟨py, 0, none⟩ (.int .i64 p1)).setCell ⟨py, 1, none⟩ (.int .i64 p2) = w8 at *
              obtain ⟨d0, d1, d2, d3, d4, -⟩ := cells_five HB8.out
              have y0 : w8.cell? ⟨py, 0, none⟩ = some (.int .i64 p1) := cell_of_row w8 py 0 _ _ _ HY8.out
              have y1 : w8.cell? ⟨py, 1, none⟩ = some (.int .i64 p2) := cell_of_row w8 py 1 _ _ _ HY8.out
              have lpx := Rg.lt_of_heap HB8.out
              have lpy := Rg.lt_of_heap HY8.out
              by_cases hpe : pe = 0
              · subst hpe
                have hbq : (bad == 0) = true := by rw [HBF.out]; rfl
                rw [hbq] at HTO HTG
                go_upto_region 22 with (fail)
                have hxa : Ext w8 (w8.alloc (.cells #[.int .i64 x0, .int .i64 x1, .int .i64 x2, .int .i64 x3, .slice xa xl xc, .int .i64 p1, .int .i64 p2] 100)) := Ext.alloc (Ext.refl _) _
                have hat : (w8.alloc (.cells #[.int .i64 x0, .int .i64 x1, .int .i64 x2, .int .i64 x3, .slice xa xl xc, .int .i64 p1, .int .i64 p2] 100)).heap[w8.heap.size]? = some (.cells #[.int .i64 x0, .int .i64 x1, .int .i64 x2, .int .i64 x3, .slice xa xl xc, .int .i64 p1, .int .i64 p2] 100) := block_new rfl
                have HAT := Lib.hid hat
                have HGA := Lib.hid (row_ext HG8.out hxa); have HOA := Lib.hid (row_ext HO8.out hxa); have HXA := Lib.hid (HX8.out.trans hxa)
                clear hxa hat
                go_upto_region 23 with (at_builtin; refine append_gw (cs := Sc.cs) (z := .agg #[.int .i64 0, .int .i64 0, .int .i64 0, .int .i64 0, .slice none 0 0, .int .i64 0, .int .i64 0]) one_sc 98 100 72 Tryz.underlying98 (by kernel_rfl) (by rfl) (by decide) (by decide) rfl (.tmp 83) (.tmp 87) rfl w2.heap.size u14 gs (by rfl) HGA.out w8.heap.size ⟨⟨x0, x1, x2, x3, xv⟩, (xa, xl, xc), (p1, p2)⟩ (by rfl) HAT.out HGL.out.1 HXA.out.size ?_; intro g7 cap7 w9 hr7 hg7 hat7; have HR7 := Lib.hid hr7; have HO7 : Hid (w9.ownsRow w2.heap.size 62 5 u15 os.length (os.flatMap Rk.cs)) := Lib.hid (row_move HOA.out (fun b hb hl => hg7.block b hl (fun e => by
                  obtain ⟨c1, h1⟩ := row_obj HOA.out hb
                  obtain ⟨c2, h2⟩ := row_obj HGA.out e.symm
                  rw [h1] at h2; cases h2))); have HX7 := Lib.hid (ext_grown HXA.out hg7 (fun b e => (HGA.out.lt b e).1)); clear hr7 hg7 hat7)
                go_wp2_with (fail)
                exact ⟨⟨i + 1, by rfl, by omega, Lib.hid (by rw [HTG.out]; exact HR7.out), Lib.hid (by rw [HTO.out]; simpa using HO7.out), HX7⟩, by simp [iof]; omega⟩
              · have hpq : (pe == 0) = false := by rw [beq_eq_false_iff_ne]; exact hpe
                have hbq : (bad == 0) = false := by rw [HBF.out]; exact hpq
                rw [hbq, HBF.out] at HTO
                rw [hbq] at HTG
                go_upto_region 21 with (fail)
                have hxa : Ext w8 (w8.alloc (.cells #[.int .i64 x0, .int .i64 0, .int .i64 0, .int .i64 0, .int .i64 pe] 62)) := Ext.alloc (Ext.refl _) _
                have hat : (w8.alloc (.cells #[.int .i64 x0, .int .i64 0, .int .i64 0, .int .i64 0, .int .i64 pe] 62)).heap[w8.heap.size]? = some (.cells #[.int .i64 x0, .int .i64 0, .int .i64 0, .int .i64 0, .int .i64 pe] 62) := block_new rfl
                have HAT := Lib.hid hat
                have HGA := Lib.hid (row_ext HG8.out hxa); have HOA := Lib.hid (row_ext HO8.out hxa); have HXA := Lib.hid (HX8.out.trans hxa)
                clear hxa hat
                go_upto_region 23 with (at_builtin; refine append_gw (cs := Rk.cs) (z := .agg #[.int .i64 0, .int .i64 0, .int .i64 0, .int .i64 0, .int .i64 0]) one_rk 44 62 40 Tryz.underlying44 (by kernel_rfl) (by rfl) (by decide) (by decide) rfl (.tmp 76) (.tmp 81) rfl w2.heap.size u15 os (by rfl) HOA.out w8.heap.size ⟨x0, (0, 0), 0, pe⟩ (by rfl) HAT.out HGL.out.2 HXA.out.size ?_; intro g7 cap7 w7 hr7 hg7 hat7; have HR7 := Lib.hid hr7; have HG7 : Hid (w7.ownsRow w2.heap.size 100 7 u14 gs.length (gs.flatMap Sc.cs)) := Lib.hid (row_move HGA.out (fun b hb hl => hg7.block b hl (fun e => by
                  obtain ⟨c1, h1⟩ := row_obj HGA.out hb
                  obtain ⟨c2, h2⟩ := row_obj HOA.out e.symm
                  rw [h1] at h2; cases h2))); have HX7 := Lib.hid (ext_grown HXA.out hg7 (fun b e => (HOA.out.lt b e).1)); clear hr7 hg7 hat7)
                go_wp2_with (fail)
                exact ⟨⟨i + 1, by rfl, by omega, Lib.hid (by rw [HTG.out]; simpa using HG7.out), Lib.hid (by rw [HTO.out]; exact HR7.out), HX7⟩, by simp [iof]; omega⟩
            · have had : (ad == 0) = false := by rw [beq_eq_false_iff_ne]; exact ha
              rw [if_neg ha] at HBF
              have hbq : (bad == 0) = false := by rw [HBF.out]; exact had
              rw [hbq, HBF.out] at HTO
              rw [hbq] at HTG
              go_upto_region 21 with (fail)
              have hxa : Ext w6 (w6.alloc (.cells #[.int .i64 x0, .int .i64 0, .int .i64 0, .int .i64 0, .int .i64 ad] 62)) := Ext.alloc (Ext.refl _) _
              have hat : (w6.alloc (.cells #[.int .i64 x0, .int .i64 0, .int .i64 0, .int .i64 0, .int .i64 ad] 62)).heap[w6.heap.size]? = some (.cells #[.int .i64 x0, .int .i64 0, .int .i64 0, .int .i64 0, .int .i64 ad] 62) := block_new rfl
              have HAT := Lib.hid hat
              have HGA := Lib.hid (row_ext HG6.out hxa); have HOA := Lib.hid (row_ext HO6.out hxa); have HXA := Lib.hid (HX6.out.trans hxa)
              clear hxa hat
              go_upto_region 23 with (at_builtin; refine append_gw (cs := Rk.cs) (z := .agg #[.int .i64 0, .int .i64 0, .int .i64 0, .int .i64 0, .int .i64 0]) one_rk 44 62 40 Tryz.underlying44 (by kernel_rfl) (by rfl) (by decide) (by decide) rfl (.tmp 76) (.tmp 81) rfl w2.heap.size u15 os (by rfl) HOA.out w6.heap.size ⟨x0, (0, 0), 0, ad⟩ (by rfl) HAT.out HGL.out.2 HXA.out.size ?_; intro g7 cap7 w7 hr7 hg7 hat7; have HR7 := Lib.hid hr7; have HG7 : Hid (w7.ownsRow w2.heap.size 100 7 u14 gs.length (gs.flatMap Sc.cs)) := Lib.hid (row_move HGA.out (fun b hb hl => hg7.block b hl (fun e => by
                obtain ⟨c1, h1⟩ := row_obj HGA.out hb
                obtain ⟨c2, h2⟩ := row_obj HOA.out e.symm
                rw [h1] at h2; cases h2))); have HX7 := Lib.hid (ext_grown HXA.out hg7 (fun b e => (HOA.out.lt b e).1)); clear hr7 hg7 hat7)
              go_wp2_with (fail)
              exact ⟨⟨i + 1, by rfl, by omega, Lib.hid (by rw [HTG.out]; simpa using HG7.out), Lib.hid (by rw [HTO.out]; exact HR7.out), HX7⟩, by simp [iof]; omega⟩
          · obtain rfl : i = own.length := by omega
            rw [List.take_length] at HG HO
            have hcmp : CmpAt w2 (.agg (tenC r)) (cmpS T.cs T.ts) (goodF r T lo own) := by
              have hsc : ∀ x ∈ goodF r T lo own, ∀ wz, Ext w2 wz → ScV wz x := by
                intro x hx wz hwz
                obtain ⟨e, he, rfl⟩ := List.mem_map.1 hx
                obtain ⟨h1, h2⟩ := List.mem_filter.1 he
                have hb : badF r T lo e.1 = 0 := by simpa using h2
                obtain ⟨o1, o2⟩ := HOK.out e h1
                refine ⟨VRd.ext (HXW.out.trans hwz) o2, pts_I2 (HT.out) o1 HLO.out o2 ?_⟩
                unfold badF at hb
                split at hb
                · exact hb
                · rename_i hne; exact absurd hb hne
              exact fun x hx y hy wz hwz => compareS_any r T.cs T.ts x y wz (HT.out.h2.ext (HXW.out.trans hwz)) (HT.out.h4.ext (HXW.out.trans hwz)) (hsc x hx wz hwz) (hsc y hy wz hwz)
            have hsr := sort_row (HS.out w2 _ hcmp) HXr.out HG.out
            rw [ltC_cmpS] at hsr
            have HSRT := Lib.hid hsr
            clear hcmp hsr
            have HRK : Hid (rankL r T lot xs = inF 0 (isort (ltS T.cs T.ts) (goodF r T lo own)) ++ outF r T lo own) := Lib.hid (by
              unfold rankL
              rw [← HOO.out, if_pos HE.out, ← HLW.out]
              rfl)
            have HSL : Hid ((isort (ltS T.cs T.ts) (goodF r T lo own)).length = (goodF r T lo own).length) := Lib.hid (isort_len _ _)
            have HGL : Hid ((goodF r T lo own).length ≤ 100000 ∧ (outF r T lo own).length ≤ 100000) := Lib.hid (by
              have h2 := List.length_filter_le (fun x : ER => badF r T lo x.1 == 0) own
              have h3 := List.length_filter_le (fun x : ER => !(badF r T lo x.1 == 0)) own
              unfold goodF outF
              rw [List.length_map, List.length_map]
              omega)
            generalize isort (ltS T.cs T.ts) (goodF r T lo own) = ss at *
            generalize goodF r T lo own = gs at *
            generalize outF r T lo own = os at *
            obtain ⟨W4, hW4⟩ : ∃ W4, W4 = wr := ⟨_, rfl⟩
            rw [← hW4] at HG HO HXr HSRT ⊢
            clear hW4 hi hil
            have HRX : Hid (W4.rangeAt G3 0 (tenC r).toList) := Lib.hid (by
              have h1 := (HRG.out W4 (HX2.out.trans HXr.out)).1
              have h2 : row = (tenC r).toList := by rw [← HRT.out]
              rw [← h2]
              exact h1)
            have l4 := (HRG.out W4 (HX2.out.trans HXr.out)).2
            go_upto_region 25 with (first
              | (refine wpList_load_mid rfl 39 (.tmp 3) rfl G3 0 (by rfl) (tenC r).toList _ HRX.out Tryz.underlying39 rfl (by kernel_rfl) ?_)
              | (go_at_call 39; (with_reducible refine HSRT.out.mono ?_); rintro e w7 ⟨rfl, hx7, hg7, hk7⟩; have HX7 := Lib.hid hx7; have HG7 := Lib.hid hg7; have HO7 : Hid (w7.ownsRow w2.heap.size 62 5 u15 os.length (os.flatMap Rk.cs)) := Lib.hid (row_move HO.out (fun b hb hl => hk7.block b hl (fun e => by
                  obtain ⟨c1, h1⟩ := row_obj HO.out hb
                  obtain ⟨c2, h2⟩ := row_obj HG.out e.symm
                  rw [h1] at h2; cases h2))); clear hx7 hg7 hk7))
            obtain ⟨gb, gc, hgf⟩ := row_form HG7.out
            subst hgf
            have hss := HG7.out
            rw [← HSL.out] at hss
            have HSS := Lib.hid (SR.of_row (cs := Sc.cs) sc_len hss (by have := HSL.out; have := HGL.out; omega))
            have hgl : gs.length ≤ 100000 := HGL.out.1
            clear hss l4 HG HO HSRT HG7
            rw [← HSL.out] at hgl ⊢
            go_upto_region 27 with (fail)
            go_loopw [20, 97] (fun nv iv wr => ∃ k : Nat, iv = .int .i64 k ∧ k ≤ ss.length ∧ Hid (wr.ownsRow w7.heap.size 62 5 nv (inF 0 (ss.take k)).length ((inF 0 (ss.take k)).flatMap Rk.cs)) ∧ Hid (Ext w7 wr)) (fun _ iv _ => ss.length - (iof iv).toNat)
            case atStart => exact ⟨0, rfl, Nat.zero_le _, Lib.hid (World.ownsRow_nil _ _ _ _), Lib.hid (Ext.refl _)⟩
            case round =>
              obtain ⟨k, rfl, hk, HN, HXn⟩ := hrel
              by_cases hkl : k < ss.length
              · obtain ⟨bb, rfl, hcs⟩ := HSS.out.at HXn.out k hkl
                have HTN : Hid (inF 0 (ss.take (k + 1)) = inF 0 (ss.take k) ++ [⟨ss[k].e.bid, ss[k].p, (k : Int) + 1, 0⟩]) := Lib.hid (by
                  rw [List.take_succ_eq_append_getElem hkl, inF_snoc, List.length_take, show 0 + min k ss.length = k by omega])
                have HNL : Hid ((inF 0 (ss.take k)).length < 1000000) := Lib.hid (by rw [inF_len, List.length_take]; omega)
                have e0 := hcs 0 _ rfl; have e1 := hcs 1 _ rfl; have e2 := hcs 2 _ rfl; have e3 := hcs 3 _ rfl; have e4 := hcs 4 _ rfl; have e5 := hcs 5 _ rfl; have e6 := hcs 6 _ rfl
                clear hcs
                generalize inF 0 (ss.take k) = ns at *
                generalize ss[k] = x at *
                obtain ⟨⟨x0, x1, x2, x3, xv⟩, ⟨xa, xl, xc⟩, p1, p2⟩ := x
                simp only [Nat.add_zero] at e0 e1 e2 e3 e4 e5 e6 HTN
                have hbl := World.block_lt_of_cell? wr _ e1
                have hkli : (k : Int) < (ss.length : Int) := by omega
                have hwk : IntKind.i64.wrap ((k : Int) + 1) = (k : Int) + 1 := by rw [IntKind.wrap_i64]; omega
                go_upto_region 29 with (fail)
                have hxa : Ext wr (wr.alloc (.cells #[.int .i64 x0, .int .i64 x1, .int .i64 x2, .int .i64 x3, .slice xa xl xc, .int .i64 p1, .int .i64 p2] 100)) := Ext.alloc (Ext.refl _) _
                have hb4 : (wr.alloc (.cells #[.int .i64 x0, .int .i64 x1, .int .i64 x2, .int .i64 x3, .slice xa xl xc, .int .i64 p1, .int .i64 p2] 100)).heap[wr.heap.size]? = some (.cells #[.int .i64 x0, .int .i64 x1, .int .i64 x2, .int .i64 x3, .slice xa xl xc, .int .i64 p1, .int .i64 p2] 100) := block_new rfl
                have HXA := Lib.hid (HXn.out.trans hxa); have HN4 := Lib.hid (row_ext HN.out hxa)
                obtain ⟨px, hpx⟩ : ∃ x, x = wr.heap.size := ⟨_, rfl⟩
                rw [← hpx] at hb4 ⊢
                clear hpx hxa e0 e1 e2 e3 e4 e5 e6 hbl HN
                generalize wr.alloc (.cells #[.int .i64 x0, .int .i64 x1, .int .i64 x2, .int .i64 x3, .slice xa xl xc, .int .i64 p1, .int .i64 p2] 100) = w9 at *
                have f0 : w9.cell? ⟨px, 0, none⟩ = some (.int .i64 x0) := cell_of_row w9 px 0 _ _ _ hb4
                have f5 : w9.cell? ⟨px, 5, none⟩ = some (.int .i64 p1) := cell_of_row w9 px 5 _ _ _ hb4
                have f6 : w9.cell? ⟨px, 6, none⟩ = some (.int .i64 p2) := cell_of_row w9 px 6 _ _ _ hb4
                have lpx := Rg.lt_of_heap hb4
                have hxb : Ext w9 (w9.alloc (.cells #[.int .i64 x0, .int .i64 p1, .int .i64 p2, .int .i64 ((k : Int) + 1), .int .i64 0] 62)) := Ext.alloc (Ext.refl _) _
                have hat : (w9.alloc (.cells #[.int .i64 x0, .int .i64 p1, .int .i64 p2, .int .i64 ((k : Int) + 1), .int .i64 0] 62)).heap[w9.heap.size]? = some (.cells #[.int .i64 x0, .int .i64 p1, .int .i64 p2, .int .i64 ((k : Int) + 1), .int .i64 0] 62) := block_new rfl
                have HAT := Lib.hid hat
                have HNA := Lib.hid (row_ext HN4.out hxb); have HXB := Lib.hid (HXA.out.trans hxb)
                clear hat hxb hb4
                go_upto_region 30 with (at_builtin; refine append_one (cs := Rk.cs) (z := .agg #[.int .i64 0, .int .i64 0, .int .i64 0, .int .i64 0, .int .i64 0]) one_rk 44 62 40 Tryz.underlying44 (by kernel_rfl) (by rfl) (by decide) (by decide) rfl (.tmp 102) (.tmp 111) rfl w7.heap.size u20 ns (by rfl) HNA.out w9.heap.size ⟨x0, (p1, p2), (k : Int) + 1, 0⟩ (by rfl) HAT.out HNL.out HXB.out.size ?_; intro g7 cap7 wz hr7 hb7; have HR7 := Lib.hid hr7; have HX9 : Hid (Ext w7 wz) := Lib.hid (RowKit.Below.trans HXB.out hb7); clear hr7 hb7)
                go_wp2_with (fail)
                exact ⟨⟨k + 1, by rfl, by omega, Lib.hid (by rw [HTN.out]; exact HR7.out), HX9⟩, by simp [iof]; omega⟩
              · obtain rfl : k = ss.length := by omega
                rw [List.take_length] at HN
                have HOn := Lib.hid (row_ext HO7.out HXn.out)
                obtain ⟨ub, uc, huf⟩ := row_form HOn.out
                subst huf
                have hsrc := own_src HOn.out
                have hsrc' : os = [] ∨ ∃ b off, ub = some ⟨b, off, none⟩ ∧ ∀ j u, (os.flatMap Rk.cs)[j]? = some u → wr.cell? ⟨b, off + j, none⟩ = some u := hsrc.imp List.length_eq_zero_iff.1 id
                have HSC := Lib.hid hsrc'
                have HNL : Hid ((inF 0 ss).length + os.length ≤ 1000000) := Lib.hid (by rw [inF_len]; have := HGL.out; omega)
                clear hsrc hsrc'
                go_wp2_with (at_builtin; refine append_rows (cs := Rk.cs) (z := .agg #[.int .i64 0, .int .i64 0, .int .i64 0, .int .i64 0, .int .i64 0]) 44 62 40 Tryz.underlying44 (by kernel_rfl) (by rfl) (by decide) (by decide) rfl (.tmp 114) (.tmp 115) rfl w7.heap.size u20 (inF 0 ss) (by rfl) HN.out one_rk ub uc os (by rfl) HSC.out HNL.out HXn.out.size ?_; intro v9 w9 hr9 hg9; have HR9 := Lib.hid hr9; have HX9 := Lib.hid (ext_grown HXn.out hg9 (fun b e => (HN.out.lt b e).1)); clear hr9 hg9)
                go_ret2
                exact ⟨_, by rw [← HOO.out, HE.out]; rfl, (HXW.out.trans HX7.out).trans HX9.out, by rw [HRK.out]; exact row_base HR9.out (HXW.out.trans HX7.out).size⟩
  · have HE := Lib.hid he
    have HR : Hid (rankL r T lot xs = []) := Lib.hid (if_neg he)
    obtain ⟨er, her⟩ : ∃ er, er = errE T.ls lot (ownE lot xs) := ⟨_, rfl⟩
    rw [← her] at he ⊢
    have heb : (er == 0) = false := by rw [beq_eq_false_iff_ne]; exact he
    have HER := Lib.hid her
    clear her
    go_wp2_with (fail)
    go_ret2
    exact ⟨_, by rw [← HER.out]; rfl, HX1.out.trans HX2.out, by rw [HR.out]; exact World.ownsRow_nil _ _ _ _⟩
end Go.Proofs.YteomcpplajeidaaGreat
