/-
  Check answers as its plain function does. Conditions: what the slices hold.
-/
import Derived.Test.YthdhlocoiipbaaaFlC
namespace Go.Proofs.Ythdhlocoiipbaaa
set_option linter.unusedVariables false
set_option linter.unusedSimpArgs false
open Go.RowKit

theorem RM.nil (w : World) : RM w (.slice none 0 0) [] := ⟨⟨none, 0, rfl, by simp, .inl rfl⟩, by simp⟩

theorem IRd.formN {w : World} {r : Value} {l : List Int} (h : IRd w r l) {n : Nat} (hn : l.length = n) : ∃ rb rc, r = .slice rb n rc := by
  obtain ⟨rb, rc, h, -⟩ := h
  exact ⟨rb, rc, by rw [h, hn]⟩
/-- Nothing but block b has turned. -/
def G1 (w w' : World) (b : Nat) : Prop := w.grownBy w' (some b)
theorem G1.refl (w : World) (b : Nat) : G1 w w b := ⟨rfl, rfl, rfl, Nat.le_refl _, fun _ _ _ => rfl⟩
theorem G1.cells {w w' : World} {b : Nat} (h : G1 w w' b) {l : List (Int × Value)} (hm : MI w b l) {p o : Nat} {v : Value} (hp : w.cell? ⟨p, o, none⟩ = some v) : w'.cell? ⟨p, o, none⟩ = some v := by
  obtain ⟨es, ck, hb, -⟩ := hm.2.2
  have hne : p ≠ b := by
    intro e
    subst e
    unfold World.cell? at hp
    simp only [hb] at hp
    cases hp
  unfold World.cell? at hp ⊢
  have := h.block p (World.block_lt_of_cell? w ⟨p, o, none⟩ (by unfold World.cell?; exact hp)) (by simpa using hne)
  simp only [this] at hp ⊢
  exact hp
theorem IRd.grown {w w' : World} {b : Nat} {l : List (Int × Value)} {r : Value} {zs : List Int} (h : IRd w r zs) (hm : MI w b l) (g : G1 w w' b) : IRd w' r zs := by
  obtain ⟨A, cap, h1, h2, h3, h4⟩ := h
  exact ⟨A, cap, h1, h2, h3, h4.imp id fun ⟨b, off, ha, hc⟩ => ⟨b, off, ha, fun k hk => g.cells hm (hc k hk)⟩⟩
theorem G1.ext {w0 w w' : World} {b : Nat} (g : G1 w w' b) (h : Ext w0 w) (hb : w0.heap.size ≤ b) : Ext w0 w' :=
  Below.trans h ⟨g.os, g.tape, g.output, g.size, fun k hk => g.block k (by have := h.size; omega) (by simp; omega)⟩
theorem G1.trans {w w1 w2 : World} {b : Nat} (g : G1 w w1 b) (h : w1.grownBy w2 (some b)) : G1 w w2 b := World.grownBy.trans g h

theorem chkI (xs : List It) (b p : Nat) (v : Value) (w : World) (hp : w.cell? ⟨p, 0, none⟩ = some (.map (some b))) (hm : MI w b (tabl xs)) (hx : RI w v xs) :
    Calls Try.prog 29 #[v, .func (.func 30) #[] #[.pointer (some ⟨p, 0, none⟩)]] w fun e w' => e = .returned (.bool (xs.any (fun x => x.frm.any (mis xs)))) ∧ Ext w w' :=
  contains29 v xs 30 #[.pointer (some ⟨p, 0, none⟩)] _ w hx.1 (fun x hxx w' h => misI_any xs b p x w' ((h.cells.1 _ _ (World.block_lt_of_cell? w ⟨p, 0, none⟩ hp)).trans hp) (hm.ext h) ((hx.2 x hxx).ext h) (fun y hy => (hx.2 y hy).ext h)) enters30
theorem chkM (xs : List It) (ms : List Ms) (b p : Nat) (v vm : Value) (w : World) (hp : w.cell? ⟨p, 0, none⟩ = some (.map (some b))) (hm : MI w b (tabl xs)) (hx : RI w v xs) (hy : RM w vm ms) :
    Calls Try.prog 32 #[vm, .func (.func 33) #[] #[.pointer (some ⟨p, 0, none⟩)]] w fun e w' => e = .returned (.bool (ms.any (fun x => x.its.any (mis xs)))) ∧ Ext w w' :=
  contains32 vm ms 33 #[.pointer (some ⟨p, 0, none⟩)] _ w hy.1 (fun x hxx w' h => misM_any xs b p x w' ((h.cells.1 _ _ (World.block_lt_of_cell? w ⟨p, 0, none⟩ hp)).trans hp) (hm.ext h) ((hy.2 x hxx).ext h) (fun y hy => (hx.2 y hy).ext h)) enters33

set_option maxRecDepth 100000 in
set_option maxHeartbeats 4000000 in
theorem Check_any (xs : List It) (ms : List Ms) (ar : List Int) (op : Int) (vx vm va : Value) (w : World) (hx : RI w vx xs) (hm : RM w vm ms) (ha : IRd w va ar) (hop : OkI op) :
    Calls Try.prog 18 #[vx, vm, va, .int .i64 op] w fun e w' => ∃ r, e = .returned (.tuple #[r, .int .i64 (chk xs ms ar op).2]) ∧ RM w' r (chk xs ms ar op).1 ∧ Ext w w' := by
  obtain ⟨bx, cx, rfl⟩ := hx.1.form
  have hxl := hx.1.le
  have hml := hm.1.le
  have htl := tabl_len xs
  have HX := Lib.hid hx; have HM := Lib.hid hm; have HA := Lib.hid ha
  clear hx hm ha
  by_cases hn : (xs.map (·.id)).Nodup
  · have hnl := htl.2.2 hn
    have hmi : miss xs ms = (xs.any (fun x => x.frm.any (mis xs)) || ms.any (fun m => m.its.any (mis xs))) := rfl
    have HT := Lib.hid htl; clear htl
    have HN := Lib.hid hn; clear hn
    cases h1 : xs.any (fun x => x.frm.any (mis xs)) with
    | true =>
      have hck : chk xs ms ar op = ([], 34) := by unfold chk; rw [if_neg (by simpa using HN.out), if_pos (by rw [hmi, h1]; rfl)]
      have HC := Lib.hid hck; clear hck hmi
      go_enter Try.func18, Try.ntmps18
      go_wp2_with (first
        | (go_at_call 26; (with_reducible refine (table_any _ xs _ HX.out).mono ?_); rintro e w1 ⟨b, rfl, hmp, hx1, hb⟩; have hln := MP.len (w := w1.alloc (.cells #[.map (some b)] 55)) (hmp.ext (Ext.alloc (Ext.refl _) _)) Try.underlying55 3; rw [hnl] at hln)
        | (go_at_call 29; have h01 : Ext w1 (w1.alloc (.cells #[.map (some b)] 55)) := Ext.alloc (Ext.refl _) _; have hpc : (w1.alloc (.cells #[.map (some b)] 55)).cell? ⟨w1.heap.size, 0, none⟩ = some (.map (some b)) := (Boxed.new w1 55 _).cell; have hC := chkI xs b w1.heap.size _ _ hpc (hmp.ext h01) ((HX.out.ext hx1).ext h01); rw [h1] at hC; (with_reducible refine hC.mono ?_); clear hC; rintro e w2 ⟨rfl, hx2⟩; have hpc2 := (hx2.cells.1 _ _ (World.block_lt_of_cell? _ ⟨w1.heap.size, 0, none⟩ hpc)).trans hpc))
      refine bodyPost_ret (v := .tuple #[.slice none 0 0, .int .i64 34]) (by simp [results, Try.results18, go_sem]) rfl ?_
      rw [HC.out]
      exact ⟨_, rfl, RM.nil _, (hx1.trans h01).trans hx2⟩
    | false =>
      cases h2 : ms.any (fun x => x.its.any (mis xs)) with
      | true =>
        have hck : chk xs ms ar op = ([], 34) := by unfold chk; rw [if_neg (by simpa using HN.out), if_pos (by rw [hmi, h1, h2]; rfl)]
        have HC := Lib.hid hck; clear hck hmi
        go_enter Try.func18, Try.ntmps18
        go_wp2_with (first
          | (go_at_call 26; (with_reducible refine (table_any _ xs _ HX.out).mono ?_); rintro e w1 ⟨b, rfl, hmp, hx1, hb⟩; have hln := MP.len (w := w1.alloc (.cells #[.map (some b)] 55)) (hmp.ext (Ext.alloc (Ext.refl _) _)) Try.underlying55 3; rw [hnl] at hln)
          | (go_at_call 29; have h01 : Ext w1 (w1.alloc (.cells #[.map (some b)] 55)) := Ext.alloc (Ext.refl _) _; have hpc : (w1.alloc (.cells #[.map (some b)] 55)).cell? ⟨w1.heap.size, 0, none⟩ = some (.map (some b)) := (Boxed.new w1 55 _).cell; have hC := chkI xs b w1.heap.size _ _ hpc (hmp.ext h01) ((HX.out.ext hx1).ext h01); rw [h1] at hC; (with_reducible refine hC.mono ?_); clear hC; rintro e w2 ⟨rfl, hx2⟩; have hpc2 := (hx2.cells.1 _ _ (World.block_lt_of_cell? _ ⟨w1.heap.size, 0, none⟩ hpc)).trans hpc)
          | (go_at_call 32; have h02 : Ext w1 w2 := h01.trans hx2; have hC := chkM xs ms b w1.heap.size _ _ _ hpc2 (hmp.ext h02) ((HX.out.ext hx1).ext h02) ((HM.out.ext hx1).ext h02); rw [h2] at hC; (with_reducible refine hC.mono ?_); clear hC; rintro e w3 ⟨rfl, hx3⟩))
        refine bodyPost_ret (v := .tuple #[.slice none 0 0, .int .i64 34]) (by simp [results, Try.results18, go_sem]) rfl ?_
        rw [HC.out]
        exact ⟨_, rfl, RM.nil _, (hx1.trans h02).trans hx3⟩
      | false =>
        have hck : chk xs ms ar op = if ms.filter (bad xs ar op) = [] then ([], 0) else (ms.filter (bad xs ar op), 40) := by unfold chk; rw [if_neg (by simpa using HN.out), if_neg (by rw [hmi, h1, h2]; simp)]
        have HC := Lib.hid hck; clear hck hmi
        have hmm := @run_makeMap Try.prog
        go_enter Try.func18, Try.ntmps18
        go_upto_region 8 with (first
          | (go_at_call 26; (with_reducible refine (table_any _ xs _ HX.out).mono ?_); rintro e w1 ⟨b, rfl, hmp, hx1, hb⟩; have hln := MP.len (w := w1.alloc (.cells #[.map (some b)] 55)) (hmp.ext (Ext.alloc (Ext.refl _) _)) Try.underlying55 3; rw [hnl] at hln)
          | (go_at_call 29; have h01 : Ext w1 (w1.alloc (.cells #[.map (some b)] 55)) := Ext.alloc (Ext.refl _) _; have hpc : (w1.alloc (.cells #[.map (some b)] 55)).cell? ⟨w1.heap.size, 0, none⟩ = some (.map (some b)) := (Boxed.new w1 55 _).cell; have hC := chkI xs b w1.heap.size _ _ hpc (hmp.ext h01) ((HX.out.ext hx1).ext h01); rw [h1] at hC; (with_reducible refine hC.mono ?_); clear hC; rintro e w2 ⟨rfl, hx2⟩; have hpc2 := (hx2.cells.1 _ _ (World.block_lt_of_cell? _ ⟨w1.heap.size, 0, none⟩ hpc)).trans hpc)
          | (go_at_call 32; have h02 : Ext w1 w2 := h01.trans hx2; have hC := chkM xs ms b w1.heap.size _ _ _ hpc2 (hmp.ext h02) ((HX.out.ext hx1).ext h02) ((HM.out.ext hx1).ext h02); rw [h2] at hC; (with_reducible refine hC.mono ?_); clear hC; rintro e w3 ⟨rfl, hx3⟩))
        have hx03 : Ext w w3 := (hx1.trans h02).trans hx3
        clear hpc hpc2 hln hmp hx1 h01 h02 hx2 hx3 hb
        have hx4 : Ext w3 ((w3.alloc (.map #[] 0)).alloc (.cells #[.map (some w3.heap.size)] 51)) := Ext.alloc (Ext.alloc (Ext.refl _) _) _
        have hb4 : ((w3.alloc (.map #[] 0)).alloc (.cells #[.map (some w3.heap.size)] 51)).heap[w3.heap.size + 1]? = some (.cells #[.map (some w3.heap.size)] 51) := by
          have := Boxed.new (w3.alloc (.map #[] 0)) 51 (.map (some w3.heap.size))
          rwa [World.size_alloc] at this
        have hm4 : MI ((w3.alloc (.map #[] 0)).alloc (.cells #[.map (some w3.heap.size)] 51)) w3.heap.size [] := (MP.made w3).ext (Ext.alloc (Ext.refl _) _)
        go_upto_region 9 with (go_at_call 15; (with_reducible refine (Labels_lab xs _ _ ((HX.out.ext hx03).ext hx4)).mono ?_); rintro e w5 ⟨r, rfl, hr, hls, hx5⟩; obtain ⟨rb, rc, rfl⟩ := hr.formN (n := xs.length) (by simp))
        have hb5 := (hx5.block _ (Rg.lt_of_heap hb4)).trans hb4
        have hm5 := hm4.ext hx5
        have hx05 : Ext w w5 := (hx03.trans hx4).trans hx5
        have H0 := Lib.hid hx05
        have HLS := Lib.hid hls; have HXS := Lib.hid (HX.out.ext hx05)
        have hw3 : w.heap.size ≤ w3.heap.size := hx03.size
        clear hx03 hx4 hb4 hm4 hx5 hls hx05
        generalize w3.heap.size = bp at *
        clear w3
        go_loopw [38] (fun k wr => ∃ (j : Nat) (m : List (Int × Value)), k = .int .i64 j ∧ j ≤ xs.length ∧ MI wr bp m ∧ Hid (PrM xs j m) ∧ G1 w5 wr bp) (fun k _ => xs.length - (iof k).toNat)
        case atStart => exact ⟨0, [], rfl, by omega, hm5, Lib.hid (PrM.start xs), G1.refl _ _⟩
        case round =>
          obtain ⟨j, m, rfl, hj, hmr, HP, HG⟩ := hrel
          have hbr := HG.cells hm5 (cell_of_row w5 (bp + 1) 0 _ _ _ hb5)
          by_cases hjl : j < xs.length
          · have hr' := IRd.grown hr hm5 HG
            obtain ⟨A', c', e1, -, -, hcell⟩ := hr'
            injection e1 with e1 e2 e3
            subst e1 e3
            obtain ⟨lb, lo, rfl, hlc⟩ := hcell.resolve_left (by intro e; rw [List.map_eq_nil_iff] at e; rw [e] at hjl; simp at hjl)
            have c9 := hlc j (by simpa using hjl)
            rw [List.getElem_map] at c9
            have hxr : RI wr (.slice bx xs.length cx) xs := HX.out.ext (HG.ext H0.out (by omega))
            obtain ⟨b', off, rfl, -, c0, -, -⟩ := it_at hxr.1 j hjl
            have hid := (hxr.2 xs[j] (List.getElem_mem _)).1
            have hst := HP.out.step hjl HN.out
            have Hst := Lib.hid hst; clear hst
            have hpr : prI xs xs[j] = (band (labOf xs xs[j]) 2 != 0) := rfl
            have Hpr := Lib.hid hpr; clear hpr
            clear hcell hlc e2 hr hxr
            have l1 : bp + 1 < wr.heap.size := World.block_lt_of_cell? wr ⟨bp + 1, 0, none⟩ hbr
            have l2 : b' < wr.heap.size := World.block_lt_of_cell? wr ⟨b', off + j * 3, none⟩ c0
            go_upto_region 11 with (fail)
            refine Rr.wp_region ((List.range 9).map (fun i => (i, .y))) (fun _ => (.cells #[] 29, Rg.ptr)) (by kernel_rfl) (by kernel_rfl) ?_
            simp only [List.range, List.range.loop, List.map_cons, List.map_nil]
            (refine Rr.wr_y (by simp only [List.getElem?_toArray, List.getElem?_cons_succ, List.getElem?_cons_zero]; rfl) (by rfl) ?_
             apply Exists.intro
             refine ⟨fun wz hw _ => ?_, ?_⟩
             · have hcz := hw.cells.1
               go_simp
               (with_reducible exact Rg.up_value)
             simp only [Act.put, List.setIfInBounds_toArray, List.set_cons_zero, List.set_cons_succ])
            (refine Rr.wr_y (by simp only [List.getElem?_toArray, List.getElem?_cons_succ, List.getElem?_cons_zero]; rfl) (by rfl) ?_
             apply Exists.intro
             refine ⟨fun wz hw _ => ?_, ?_⟩
             · have hcz := hw.cells.1
               go_simp
               (with_reducible exact Rg.up_value)
             simp only [Act.put, List.setIfInBounds_toArray, List.set_cons_zero, List.set_cons_succ])
            (refine Rr.wr_y (by simp only [List.getElem?_toArray, List.getElem?_cons_succ, List.getElem?_cons_zero]; rfl) (by rfl) ?_
             apply Exists.intro
             refine ⟨fun wz hw _ => ?_, ?_⟩
             · have hcz := hw.cells.1
               go_simp
               (with_reducible exact Rg.up_value)
             simp only [Act.put, List.setIfInBounds_toArray, List.set_cons_zero, List.set_cons_succ])
            (refine Rr.wr_y (by simp only [List.getElem?_toArray, List.getElem?_cons_succ, List.getElem?_cons_zero]; rfl) (by rfl) ?_
             apply Exists.intro
             refine ⟨fun wz hw _ => ?_, ?_⟩
             · have hcz := hw.cells.1
               go_simp
               (with_reducible exact Rg.up_value)
             simp only [Act.put, List.setIfInBounds_toArray, List.set_cons_zero, List.set_cons_succ])
            (refine Rr.wr_y (by simp only [List.getElem?_toArray, List.getElem?_cons_succ, List.getElem?_cons_zero]; rfl) (by rfl) ?_
             apply Exists.intro
             refine ⟨fun wz hw _ => ?_, ?_⟩
             · have hcz := hw.cells.1
               go_simp
               (with_reducible exact Rg.up_value)
             simp only [Act.put, List.setIfInBounds_toArray, List.set_cons_zero, List.set_cons_succ])
            (refine Rr.wr_y (by simp only [List.getElem?_toArray, List.getElem?_cons_succ, List.getElem?_cons_zero]; rfl) (by rfl) ?_
             apply Exists.intro
             refine ⟨fun wz hw _ => ?_, ?_⟩
             · have hcz := hw.cells.1
               go_simp
               (with_reducible exact Rg.up_value)
             simp only [Act.put, List.setIfInBounds_toArray, List.set_cons_zero, List.set_cons_succ])
            (refine Rr.wr_y (by simp only [List.getElem?_toArray, List.getElem?_cons_succ, List.getElem?_cons_zero]; rfl) (by rfl) ?_
             apply Exists.intro
             refine ⟨fun wz hw _ => ?_, ?_⟩
             · have hcz := hw.cells.1
               go_simp
               (with_reducible exact Rg.up_value)
             simp only [Act.put, List.setIfInBounds_toArray, List.set_cons_zero, List.set_cons_succ])
            (refine Rr.wr_y (by simp only [List.getElem?_toArray, List.getElem?_cons_succ, List.getElem?_cons_zero]; rfl) (by rfl) ?_
             apply Exists.intro
             refine ⟨fun wz hw _ => ?_, ?_⟩
             · have hcz := hw.cells.1
               go_simp
               (with_reducible exact Rg.up_value)
             simp only [Act.put, List.setIfInBounds_toArray, List.set_cons_zero, List.set_cons_succ])
            (refine Rr.wr_y (by simp only [List.getElem?_toArray, List.getElem?_cons_succ, List.getElem?_cons_zero]; rfl) (by rfl) ?_
             apply Exists.intro
             refine ⟨fun wz hw _ => ?_, ?_⟩
             · have hcz := hw.cells.1
               go_simp
               (with_reducible exact Rg.up_value)
             simp only [Act.put, List.setIfInBounds_toArray, List.set_cons_zero, List.set_cons_succ])
            refine Rr.wr_nil ?_
            intro wy hy hh
            simp only [List.length_cons, List.length_nil, List.drop_succ_cons, List.drop_zero, Nat.reduceAdd]
            clear hh
            go_wp2_with (at_mapUpdate; refine wpList_store rfl _ _ _ 51 rfl 3 4 keI Try.underlying51 bp _ (by rfl) (hmr.ext hy) xs[j].id (by rfl) hid (.bool (prI xs xs[j])) (by rw [Hpr.out]; rfl) ?_; intro w6 hm6 hg6)
            exact ⟨⟨j + 1, _, by simp, by omega, hm6, Hst, G1.trans (G1.trans HG ⟨hy.os, hy.tape, hy.output, hy.size, fun k hk _ => hy.block k hk⟩) hg6⟩, by simp; omega⟩
          · obtain rfl : j = xs.length := by omega
            have hw : Ext w wr := HG.ext H0.out (by omega)
            have HW := Lib.hid hw; clear hw
            have hpd := HP.out.done
            have HPD := Lib.hid hpd; clear hpd
            clear HG HP hr hm5 hb5 HXS HLS
            clear h2
            generalize hbo : bad xs ar op = bd at *
            have HBO := Lib.hid hbo; clear hbo
            have hlr : bp + 1 < wr.heap.size := World.block_lt_of_cell? wr ⟨bp + 1, 0, none⟩ hbr
            obtain ⟨bm, cm, rfl⟩ := HM.out.1.form
            go_upto_region 15 with (fail)
            obtain ⟨w6, hw6⟩ : ∃ w6, w6 = wr := ⟨wr, rfl⟩
            subst hw6
            go_loopw [15, 55] (fun o k wq => ∃ (j : Nat), k = .int .i64 j ∧ j ≤ ms.length ∧ wq.ownsRow w6.heap.size 48 4 o ((ms.take j).filter bd).length (((ms.take j).filter bd).flatMap Ms.cs) ∧ Ext w6 wq) (fun _ k _ => ms.length - (iof k).toNat)
            case atStart => exact ⟨0, rfl, by omega, by simpa using World.ownsRow_nil _ _ _ _, Ext.refl _⟩
            case round =>
              obtain ⟨i, rfl, hi, hrow, hxq⟩ := hrel
              by_cases hil : i < ms.length
              · have hmq := (HM.out.ext HW.out).ext hxq
                obtain ⟨mb, mo, rfl, -, c0, c1, c2, c3⟩ := ms_at hmq.1 i hil
                have hmg := hmq.2 ms[i] (List.getElem_mem _)
                have htk : (ms.take (i + 1)).filter bd = (ms.take i).filter bd ++ (if bd ms[i] then [ms[i]] else []) := by
                  rw [List.take_succ_eq_append_getElem hil, List.filter_append]
                  congr 1
                  cases hq : bd ms[i] <;> simp [hq]
                have hbq := congrFun HBO.out ms[i]
                generalize ms[i] = q at *
                obtain ⟨q0, q1, q2, qv, qi⟩ := q
                obtain ⟨A, c, hs⟩ := hmg.shape
                simp only at hs c0 c1 c2 c3
                subst hs
                have hir : ∀ x ∈ qi, OkI x := by
                  obtain ⟨-, -, -, -, h, -⟩ := hmg.2.2.2
                  exact h
                have hxa : Ext wr (wr.alloc (.cells #[.int .i64 q0, .int .i64 q1, .int .i64 q2, .slice A qi.length c] 48)) := Ext.alloc (Ext.refl _) _
                have h34 := contains34 va ar q1 _ (((HA.out.ext HW.out).ext hxq).ext hxa)
                unfold bad at hbq
                simp only at hbq
                have Htk := Lib.hid htk; clear htk
                by_cases hA : q2 < op
                · rw [decide_eq_true hA, Bool.true_and] at hbq
                  cases hB : ar.contains q1 with
                  | false =>
                    rw [hB] at h34
                    rw [hB, Bool.false_and] at hbq
                    rw [← hbq] at Htk
                    have Hbq := Lib.hid hbq; clear hbq
                    go_wp2_with (go_at_call 34; (with_reducible refine h34.mono ?_); rintro e w7 ⟨rfl, hx7⟩; have hb7 := (hx7.block wr.heap.size (by simp)).trans (World.alloc_heap_new wr _); have d73 := cell_of_row w7 wr.heap.size 3 _ _ _ hb7)
                    exact ⟨⟨i + 1, by simp, by omega, by rw [Htk.out]; simpa using row_ext hrow (hxa.trans hx7), hxq.trans (hxa.trans hx7)⟩, by simp; omega⟩
                  | true =>
                    rw [hB] at h34
                    rw [hB, Bool.true_and] at hbq
                    cases hC : qi.any (price xs) with
                    | false =>
                      rw [hC] at hbq
                      rw [← hbq] at Htk
                      have Hbq := Lib.hid hbq; clear hbq
                      go_wp2_with (first
                        | (go_at_call 34; (with_reducible refine h34.mono ?_); rintro e w7 ⟨rfl, hx7⟩; have hb7 := (hx7.block wr.heap.size (by simp)).trans (World.alloc_heap_new wr _); have d73 := cell_of_row w7 wr.heap.size 3 _ _ _ hb7)
                        | (go_at_call 35; have h35 := contains35 (.slice A qi.length c) qi 36 #[.pointer (some ⟨bp + 1, 0, none⟩)] (price xs) w7 ((hmg.2.2.2.ext hxa).ext hx7) (fun x hx w' h => price_any bp (bp + 1) m (price xs) x w' (((((hxq.trans hxa).trans hx7).trans h).cells.1 _ _ hlr).trans hbr) (hmr.ext (((hxq.trans hxa).trans hx7).trans h)) (hir x hx) (HPD.out x)) enters36; rw [hC] at h35; (with_reducible refine h35.mono ?_); rintro e w8 ⟨rfl, hx8⟩; have hb8 := (hx8.block _ (Rg.lt_of_heap hb7)).trans hb7; have d80 := cell_of_row w8 wr.heap.size 0 _ _ _ hb8; have d81 := cell_of_row w8 wr.heap.size 1 _ _ _ hb8; have d82 := cell_of_row w8 wr.heap.size 2 _ _ _ hb8; have d83 := cell_of_row w8 wr.heap.size 3 _ _ _ hb8))
                      exact ⟨⟨i + 1, by simp, by omega, by rw [Htk.out]; simpa using row_ext hrow ((hxa.trans hx7).trans hx8), hxq.trans ((hxa.trans hx7).trans hx8)⟩, by simp; omega⟩
                    | true =>
                      rw [hC] at hbq
                      rw [← hbq] at Htk
                      have Hbq := Lib.hid hbq; clear hbq
                      go_wp2_with (first
                        | (go_at_call 34; (with_reducible refine h34.mono ?_); rintro e w7 ⟨rfl, hx7⟩; have hb7 := (hx7.block wr.heap.size (by simp)).trans (World.alloc_heap_new wr _); have d73 := cell_of_row w7 wr.heap.size 3 _ _ _ hb7)
                        | (go_at_call 35; have h35 := contains35 (.slice A qi.length c) qi 36 #[.pointer (some ⟨bp + 1, 0, none⟩)] (price xs) w7 ((hmg.2.2.2.ext hxa).ext hx7) (fun x hx w' h => price_any bp (bp + 1) m (price xs) x w' (((((hxq.trans hxa).trans hx7).trans h).cells.1 _ _ hlr).trans hbr) (hmr.ext (((hxq.trans hxa).trans hx7).trans h)) (hir x hx) (HPD.out x)) enters36; rw [hC] at h35; (with_reducible refine h35.mono ?_); rintro e w8 ⟨rfl, hx8⟩; have hb8 := (hx8.block _ (Rg.lt_of_heap hb7)).trans hb7; have d80 := cell_of_row w8 wr.heap.size 0 _ _ _ hb8; have d81 := cell_of_row w8 wr.heap.size 1 _ _ _ hb8; have d82 := cell_of_row w8 wr.heap.size 2 _ _ _ hb8; have d83 := cell_of_row w8 wr.heap.size 3 _ _ _ hb8)
                        | (at_builtin; go_loud (refine append_u (cs := Ms.cs) (z := .agg #[.int .i64 0, .int .i64 0, .int .i64 0, .slice none 0 0]) 36 48 48 Try.underlying36 (by kernel_rfl) (by rfl) (by decide) (by decide) rfl _ _ rfl w6.heap.size _ ((ms.take i).filter bd) (by rfl) (row_ext hrow (((hxa.trans hx7).trans hx8).trans (Ext.alloc (Ext.refl _) _))) w8.heap.size ⟨q0, q1, q2, .slice A qi.length c, qi⟩ ⟨rfl, by simp [Ms.cs, Value.oneCell']⟩ (by rfl) (World.alloc_heap_new _ _) (by have := List.length_filter_le bd (ms.take i); have := List.length_take_le i ms; omega) (by have := hxq.size; have := ((hxa.trans hx7).trans hx8).size; simp; omega) ?_; intro g cap' w9 hr9 hb9)))
                      refine ⟨⟨i + 1, by simp, by omega, by rw [Htk.out]; simpa using hr9, Below.trans hxq (Below.trans ((((hxa.trans hx7).trans hx8).trans (Ext.alloc (Ext.refl _) _)).mono hxq.size) hb9)⟩, by simp; omega⟩
                · rw [decide_eq_false hA, Bool.false_and, Bool.false_and] at hbq
                  rw [← hbq] at Htk
                  have Hbq := Lib.hid hbq; clear hbq
                  go_wp2_with (fail)
                  exact ⟨⟨i + 1, by simp, by omega, by rw [Htk.out]; simpa using row_ext hrow (hxa), hxq.trans (hxa)⟩, by simp; omega⟩
              · obtain rfl : i = ms.length := by omega
                rw [List.take_length] at hrow
                obtain ⟨ob, oc, rfl⟩ := (SR.of_row (cs := Ms.cs) (fun x => rfl) hrow (by have := List.length_filter_le bd ms; omega)).form
                by_cases hf : ms.filter bd = []
                · rw [if_pos hf] at HC
                  simp only [hf, List.length_nil] at *
                  go_wp2_with (fail)
                  refine bodyPost_ret (v := .tuple #[.slice none 0 0, .int .i64 0]) (by simp [results, Try.results18, go_sem]) rfl ?_
                  rw [HC.out]
                  exact ⟨_, rfl, RM.nil _, HW.out.trans hxq⟩
                · have hne : ms.filter bd ≠ [] := hf
                  rw [if_neg hne] at HC
                  have hpos : 0 < (ms.filter bd).length := List.length_pos_iff.2 hne
                  have hrm : RM wr (.slice ob (ms.filter bd).length oc) (ms.filter bd) := ⟨(SR.of_row (cs := Ms.cs) (fun x => rfl) hrow (by have := List.length_filter_le bd ms; omega)).sq, fun x hx => ((HM.out.ext HW.out).ext hxq).2 x (List.mem_filter.1 hx).1⟩
                  clear hf hne hrow
                  generalize (ms.filter bd).length = nf at *
                  go_wp2_with (fail)
                  refine bodyPost_ret (v := .tuple #[.slice ob nf oc, .int .i64 40]) (by simp [results, Try.results18, go_sem]) rfl ?_
                  rw [HC.out]
                  exact ⟨_, rfl, hrm, HW.out.trans hxq⟩
  · have hnl : (tabl xs).length < xs.length := by
      have := htl.1
      have h2 : (tabl xs).length ≠ xs.length := fun e => hn (htl.2.1 e)
      omega
    have HT := Lib.hid htl; clear htl
    have HN := Lib.hid hn; clear hn
    obtain ⟨k, hk⟩ : ∃ k, (tabl xs).length = k := ⟨_, rfl⟩
    rw [hk] at hnl
    go_enter Try.func18, Try.ntmps18
    go_wp2_with (first
      | (go_at_call 26; (with_reducible refine (table_any _ xs _ HX.out).mono ?_); rintro e w1 ⟨b, rfl, hmp, hx1, hb⟩; have hln := MP.len (w := w1.alloc (.cells #[.map (some b)] 55)) (hmp.ext (Ext.alloc (Ext.refl _) _)) Try.underlying55 3; rw [hk] at hln))
    refine bodyPost_ret (v := .tuple #[.slice none 0 0, .int .i64 33]) (by simp [results, Try.results18, go_sem]) rfl ?_
    have hck : chk xs ms ar op = ([], 33) := by unfold chk; rw [if_pos HN.out]
    rw [hck]
    exact ⟨_, rfl, RM.nil _, hx1.trans (Ext.alloc (Ext.refl _) _)⟩

end Go.Proofs.Ythdhlocoiipbaaa
