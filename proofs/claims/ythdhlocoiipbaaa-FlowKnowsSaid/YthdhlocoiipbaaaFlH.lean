/-
  The reference's labels, walked. Condition: the slice holds the items.
-/
import Derived.Test.YthdhlocoiipbaaaFlG
namespace Go.Proofs.Ythdhlocoiipbaaa
set_option linter.unusedVariables false
set_option linter.unusedSimpArgs false
open Go.RowKit

theorem row_ints {B : Nat} {w : World} {v : Value} {n : Nat} {zs : List Int} (h : w.ownsRow B 3 1 v n (zs.flatMap celI)) (hn : zs.length = n) (hp : 0 < n) : ∃ g cap, v = .slice (some ⟨g, 0, none⟩) n cap ∧ B ≤ g ∧ (∀ k (hk : k < zs.length), w.cell? ⟨g, k, none⟩ = some (.int .i64 zs[k])) ∧ (∀ k, w.frozen? ⟨g, k, none⟩ = false) := by
  obtain ⟨g, cap, rfl, hB, -⟩ := h.form hp
  refine ⟨g, cap, rfl, hB, fun k hk => ?_, fun k => h.frozenAt k⟩
  rw [h.cellAt k (by omega), celI_map, List.getElem?_map, List.getElem?_eq_getElem hk]
  rfl
theorem row_store {B g cap n : Nat} {w : World} {zs : List Int} (h : w.ownsRow B 3 1 (.slice (some ⟨g, 0, none⟩) n cap) n (zs.flatMap celI)) (k : Nat) (z : Int) :
    (w.setCell ⟨g, k, none⟩ (.int .i64 z)).ownsRow B 3 1 (.slice (some ⟨g, 0, none⟩) n cap) n ((zs.set k z).flatMap celI) := by
  have := (h.stored k (.int .i64 z)).1
  rw [celI_map] at this ⊢
  rw [List.map_set]
  exact this

theorem FI.unique {xs : List It} {id : Int} {m m' : Nat} (h : FI xs id m) (h' : FI xs id m') : m = m' := by
  rcases h with ⟨e, -⟩ | ⟨k, hk, e, hf, hn⟩
  · omega
  · rcases h' with ⟨e', -⟩ | ⟨k', hk', e', hf', hn'⟩
    · omega
    · have h1 : xs[k].id = id := by have := List.find?_some hf; simpa using this
      have h2 : xs[k'].id = id := by have := List.find?_some hf'; simpa using this
      obtain rfl : m = k := by omega
      obtain rfl : m' = k' := by omega
      rcases Nat.lt_trichotomy m m' with h | h | h
      · exact absurd h1 (hn' m h)
      · exact h
      · exact absurd h2 (hn m' h)

set_option maxRecDepth 100000 in
set_option maxHeartbeats 4000000 in
theorem refLabels_any (xs : List It) (v : Value) (w : World) (h : RI w v xs) :
    Calls Try.prog 16 #[v] w fun e w' => ∃ r, e = .returned r ∧ (∃ zs, IRd w' r zs ∧ LabA xs zs) ∧ Ext w w' := by
  obtain ⟨bx, cx, rfl⟩ := h.1.form
  have hle := h.1.le
  have HR := Lib.hid h; clear h
  obtain ⟨n, hn⟩ : ∃ n, xs.length = n := ⟨_, rfl⟩
  rw [hn] at hle HR ⊢
  go_enter Try.func16, Try.ntmps16
  go_upto_region 3 with (fail)
  go_loopw [3, 4] (fun o k wr => ∃ j : Nat, k = .int .i64 j ∧ j ≤ n ∧ wr.ownsRow w.heap.size 3 1 o ((xs.take j).map (·.label)).length (((xs.take j).map (·.label)).flatMap celI) ∧ Ext w wr) (fun _ k _ => n - (iof k).toNat)
  case atStart => exact ⟨0, rfl, by omega, World.ownsRow_nil _ _ _ _, Ext.refl _⟩
  case round =>
    obtain ⟨j, rfl, hj, hrow, hx⟩ := hrel
    by_cases hjl : j < n
    · have hj' : j < xs.length := by omega
      obtain ⟨b, off, rfl, -, c0, c1, c2⟩ := it_at (HR.out.1.ext hx) j hj'
      have htk : (xs.take (j + 1)).map (·.label) = (xs.take j).map (·.label) ++ [xs[j].label] := by
        rw [List.take_succ_eq_append_getElem hj', List.map_append]; rfl
      have htl : ((xs.take j).map (·.label)).length = j := by rw [List.length_map, List.length_take]; omega
      have Htk := Lib.hid htk; clear htk
      generalize xs[j].label = xl at *
      go_wp2_with (at_builtin; go_loud (refine append_int rfl _ _ rfl w.heap.size _ ((xs.take j).map (·.label)) (by rfl) (row_ext hrow (Ext.alloc (Ext.refl _) _)) _ xl (by rfl) (World.alloc_heap_new _ _) (by omega) (by have := hx.size; simp; omega) ?_; intro g cap' w3 hr3 hb3))
      rw [htl] at hr3
      exact ⟨⟨j + 1, by simp, by omega, by rw [Htk.out]; exact hr3, Below.trans (hx.trans (Ext.alloc (Ext.refl _) _)) hb3⟩, by simp; omega⟩
    · obtain rfl : j = n := by omega
      rw [List.take_of_length_le (by omega)] at hrow
      have hinv : InvL xs (xs.map (·.label)) := InvL.start fun x hx => (HR.out.2 x hx).2.1
      have hzl : (xs.map (·.label)).length = j := by rw [List.length_map, hn]
      generalize xs.map (·.label) = zs0 at *
      rw [hzl] at hrow
      generalize hv : u3 = ov at *
      clear hv
      go_upto_region 7 with (fail)
      go_loopw [5] (fun c wr => ∃ (zs : List Int) (ch : Bool), c = .bool ch ∧ zs.length = j ∧ wr.ownsRow w.heap.size 3 1 ov j (zs.flatMap celI) ∧ Hid (InvL xs zs) ∧ Ext w wr ∧ Hid (ch = true ∨ ∀ k (hk : k < xs.length), ∀ id ∈ xs[k].frm, ClosedAt xs zs k id)) (fun c wr => 2 * uS (rdL wr ov) + bof c)
      case atStart => exact ⟨zs0, true, rfl, hzl, hrow, Lib.hid hinv, hx, Lib.hid (.inl rfl)⟩
      case round =>
        obtain ⟨zs, ch, rfl, hzl, hrow, HI, hx, HCH⟩ := hrel
        have hmeas : uS (rdL wr ov) = uS zs := rdL_row (B := w.heap.size) (by rw [hzl]; exact hrow)
        have HME := Lib.hid hmeas; clear hmeas
        cases ch with
        | false =>
          go_wp2_with (fail)
          go_ret
          refine ⟨_, rfl, ⟨zs, ird_row (B := w.heap.size) (by rw [hzl]; exact hrow) (fun z hz => ?_) (by omega), HI.out.done (HCH.out.resolve_left (by simp))⟩, hx⟩
          obtain ⟨k, hk, rfl⟩ := List.getElem_of_mem hz
          exact (HI.out.2 k (by omega) hk).1
        | true =>
          clear HCH
          obtain ⟨w7, hw7⟩ : ∃ w7, w7 = wr := ⟨wr, rfl⟩
          subst hw7
          go_upto_region 10 with (fail)
          go_loopw [5, 6] (fun c k wr => ∃ (i : Nat) (ys : List Int) (ch : Bool), k = .int .i64 i ∧ i ≤ j ∧ c = .bool ch ∧ ys.length = j ∧ wr.ownsRow w.heap.size 3 1 ov j (ys.flatMap celI) ∧ Hid (InvL xs ys) ∧ Ext w wr ∧
            Hid ((ch = false ∧ ys = zs ∧ ∀ k (hk : k < xs.length), k < i → ∀ id ∈ xs[k].frm, ClosedAt xs ys k id) ∨ (ch = true ∧ uS ys < uS zs))) (fun _ k _ => j - (iof k).toNat)
          case atStart => exact ⟨0, zs, false, rfl, by omega, rfl, hzl, hrow, HI, hx, Lib.hid (.inl ⟨rfl, rfl, fun k hk h => by omega⟩)⟩
          case round =>
            clear hrow hx HI
            obtain ⟨i, ys, ch, rfl, hi, rfl, hyl, hrow, HI, hx, HC⟩ := hrel
            by_cases hij : i < j
            · have hix : i < xs.length := by omega
              have hgood := HR.out.2 xs[i] (List.getElem_mem _)
              obtain ⟨A, c, hsh⟩ := hgood.shape
              have hirf := hgood.2.2
              obtain ⟨frm, hfrm⟩ : ∃ frm, frm = xs[i].frm := ⟨_, rfl⟩
              rw [← hfrm] at hsh hirf
              rw [hsh] at hirf
              have hflen : frm.length ≤ 9223372036854775807 := by obtain ⟨_, _, -, h, -⟩ := hirf; exact h
              have Hfrm := Lib.hid hfrm; clear hfrm
              have HIR := Lib.hid hirf; clear hirf
              go_upto_region 13 with (fail)
              go_loopw [5, 7] (fun c k wq => ∃ (a : Nat) (ts : List Int) (ch : Bool), k = .int .i64 a ∧ a ≤ frm.length ∧ c = .bool ch ∧ ts.length = j ∧ wq.ownsRow w.heap.size 3 1 ov j (ts.flatMap celI) ∧ Hid (InvL xs ts) ∧ Ext w wq ∧
                Hid ((ch = false ∧ ts = zs ∧ (∀ k (hk : k < xs.length), k < i → ∀ id ∈ xs[k].frm, ClosedAt xs ts k id) ∧ ∀ id ∈ frm.take a, ClosedAt xs ts i id) ∨ (ch = true ∧ uS ts < uS zs))) (fun _ k _ => frm.length - (iof k).toNat)
              case atStart => exact ⟨0, ys, ch, rfl, by omega, rfl, hyl, hrow, HI, hx, Lib.hid (HC.out.imp (fun ⟨a1, a2, a3⟩ => ⟨a1, a2, a3, by simp⟩) id)⟩
              case round =>
                clear hrow hx HI HC
                obtain ⟨a, ts, ch, rfl, ha, rfl, htl, hrow, HI, hx, HC⟩ := hrel
                obtain ⟨b, off, rfl, -, c0, c1, c2⟩ := it_at (HR.out.1.ext hx) i hix
                rw [hsh] at c2
                by_cases hal : a < frm.length
                · obtain ⟨A', c', e1, -, -, hcell⟩ := HIR.out.ext hx
                  injection e1 with e1 e2 e3
                  subst e1 e3
                  obtain ⟨qb, qo, rfl, hc⟩ := hcell.resolve_left (by intro e; rw [e] at hal; simp at hal)
                  have cq := hc a hal
                  have hfid : frm[a] ∈ xs[i].frm := by rw [← Hfrm.out]; exact List.getElem_mem _
                  have htk : frm.take (a + 1) = frm.take a ++ [frm[a]] := List.take_succ_eq_append_getElem hal
                  have Htk := Lib.hid htk; clear htk hc hcell e2
                  obtain ⟨g, cap, rfl, hBg, hcl, hfz⟩ := row_ints hrow htl (by omega)
                  have cti := hcl i (by omega)
                  generalize frm[a] = id at *
                  go_upto_region 16 with (go_at_call 28; go_loud (have hF := find_any _ xs id _ (HR.out.1.ext hx); (with_reducible refine hF.mono ?_); clear hF; rintro e w9 ⟨z, rfl, hz, hw9⟩; subst hw9; have HZ := Lib.hid hz; clear hz))
                  have hti : i < ts.length := by omega
                  rcases HZ.out with ⟨rfl, hnone⟩ | ⟨m, hm, rfl, hfd, hmn⟩
                  · have Hnone := Lib.hid hnone; clear hnone
                    go_quiet (fail)
                    go_wp2_with (fail)
                    refine ⟨⟨a + 1, ts, ch, by simp, by omega, rfl, htl, hrow, HI, Ext.drewN hx _, Lib.hid (HC.out.imp (fun ⟨a1, a2, a3, a4⟩ => ⟨a1, a2, a3, fun id' hid' => ?_⟩) fun h => h)⟩, by simp; omega⟩
                    rw [Htk.out] at hid'
                    rcases List.mem_append.1 hid' with h | h
                    · exact a4 id' h
                    · rw [List.mem_singleton] at h
                      subst h
                      intro m' hm' _ _ hf
                      rcases hf with ⟨e, -⟩ | ⟨k, hk, e, hfd, -⟩
                      · omega
                      · rw [Hnone.out] at hfd; cases hfd
                  · have htm : m < ts.length := by omega
                    have ctm := hcl m htm
                    have HF := Lib.hid (And.intro hfd hmn); clear hfd hmn
                    have hok := (HI.out.2 i hix hti).1
                    have hst := HI.out.step hix hm hti htm hfid HF.out.1
                    have hfi : FI xs id m := .inr ⟨m, hm, rfl, HF.out.1, HF.out.2⟩
                    have HFI := Lib.hid hfi; clear hfi
                    have HST := Lib.hid hst; clear hst
                    by_cases hq : bor ts[i] ts[m] = ts[i]
                    · have Hq := Lib.hid hq
                      have hqb : bits BinOp.or IntKind.i64 ts[i] ts[m] = ts[i] := hq
                      clear hq hcl
                      go_quiet (fail)
                      go_wp2_with (fail)
                      refine ⟨⟨a + 1, ts, ch, by simp, by omega, rfl, htl, hrow, HI, Ext.drewN hx _, Lib.hid (HC.out.imp (fun ⟨a1, a2, a3, a4⟩ => ⟨a1, a2, a3, fun id' hid' => ?_⟩) fun h => h)⟩, by simp; omega⟩
                      rw [Htk.out] at hid'
                      rcases List.mem_append.1 hid' with h | h
                      · exact a4 id' h
                      · rw [List.mem_singleton] at h
                        subst h
                        intro m' hm' hm2 hk2 hf
                        obtain rfl := hf.unique HFI.out
                        exact Hq.out
                    · have Hq := Lib.hid hq
                      have hqb : ¬ bits BinOp.or IntKind.i64 ts[i] ts[m] = ts[i] := hq
                      have hus := uS_set hti (uz_bor hok hq)
                      have HUS := Lib.hid hus; clear hus
                      clear hq hcl
                      go_quiet (fail)
                      go_upto_region 17 with (fail)
                      have hxd : Ext w9 (w9.drewN nq) := Ext.drewN (Ext.refl w9) nq
                      have hrowd := row_ext hrow hxd
                      have hxwd := hx.trans hxd
                      clear cti ctm hrow hx hxd c0 c1 c2 cq hfz
                      generalize w9.drewN nq = wd at *
                      obtain ⟨g', cap', eg, -, hcl, -⟩ := row_ints hrowd htl (by omega)
                      injection eg with eg _ _
                      injection eg with eg
                      injection eg with eg _ _
                      subst eg
                      have cti := hcl i hti
                      have ctm := hcl m htm
                      have lg : g < wd.heap.size := World.block_lt_of_cell? wd ⟨g, i, none⟩ cti
                      clear hcl
                      have hmj : m < j := by omega
                      refine Rr.wp_region ((List.range 12).map (fun i => (i, .y))) (fun _ => (.cells #[] 29, Rg.ptr)) (by kernel_rfl) (by kernel_rfl) ?_
                      simp only [List.range, List.range.loop, List.map_cons, List.map_nil]
                      (refine Rr.wr_y (by simp only [List.getElem?_toArray, List.getElem?_cons_succ, List.getElem?_cons_zero]; rfl) (by rfl) ?_
                       apply Exists.intro
                       refine ⟨fun wz hw _ => ?_, ?_⟩
                       · have hcz := hw.cells.1
                         go_simp
                         (with_reducible exact Rg.up_value)
                       simp only [Act.put, List.setIfInBounds_toArray, List.set_cons_zero, List.set_cons_succ])
                      (refine Rr.wr_y (by simp only [List.getElem?_toArray, List.getElem?_cons_succ, List.getElem?_cons_zero]; rfl) (by rfl) ?_
                       apply Exists.intro
                       refine ⟨fun wz hw _ => ?_, ?_⟩
                       · have hcz := hw.cells.1
                         go_simp
                         (with_reducible exact Rg.up_value)
                       simp only [Act.put, List.setIfInBounds_toArray, List.set_cons_zero, List.set_cons_succ])
                      (refine Rr.wr_y (by simp only [List.getElem?_toArray, List.getElem?_cons_succ, List.getElem?_cons_zero]; rfl) (by rfl) ?_
                       apply Exists.intro
                       refine ⟨fun wz hw _ => ?_, ?_⟩
                       · have hcz := hw.cells.1
                         go_simp
                         (with_reducible exact Rg.up_value)
                       simp only [Act.put, List.setIfInBounds_toArray, List.set_cons_zero, List.set_cons_succ])
                      (refine Rr.wr_y (by simp only [List.getElem?_toArray, List.getElem?_cons_succ, List.getElem?_cons_zero]; rfl) (by rfl) ?_
                       apply Exists.intro
                       refine ⟨fun wz hw _ => ?_, ?_⟩
                       · have hcz := hw.cells.1
                         go_simp
                         (with_reducible exact Rg.up_value)
                       simp only [Act.put, List.setIfInBounds_toArray, List.set_cons_zero, List.set_cons_succ])
                      (refine Rr.wr_y (by simp only [List.getElem?_toArray, List.getElem?_cons_succ, List.getElem?_cons_zero]; rfl) (by rfl) ?_
                       apply Exists.intro
                       refine ⟨fun wz hw _ => ?_, ?_⟩
                       · have hcz := hw.cells.1
                         go_simp
                         (with_reducible exact Rg.up_value)
                       simp only [Act.put, List.setIfInBounds_toArray, List.set_cons_zero, List.set_cons_succ])
                      (refine Rr.wr_y (by simp only [List.getElem?_toArray, List.getElem?_cons_succ, List.getElem?_cons_zero]; rfl) (by rfl) ?_
                       apply Exists.intro
                       refine ⟨fun wz hw _ => ?_, ?_⟩
                       · have hcz := hw.cells.1
                         go_simp
                         (with_reducible exact Rg.up_value)
                       simp only [Act.put, List.setIfInBounds_toArray, List.set_cons_zero, List.set_cons_succ])
                      (refine Rr.wr_y (by simp only [List.getElem?_toArray, List.getElem?_cons_succ, List.getElem?_cons_zero]; rfl) (by rfl) ?_
                       apply Exists.intro
                       refine ⟨fun wz hw _ => ?_, ?_⟩
                       · have hcz := hw.cells.1
                         go_simp
                         (with_reducible exact Rg.up_value)
                       simp only [Act.put, List.setIfInBounds_toArray, List.set_cons_zero, List.set_cons_succ])
                      (refine Rr.wr_y (by simp only [List.getElem?_toArray, List.getElem?_cons_succ, List.getElem?_cons_zero]; rfl) (by rfl) ?_
                       apply Exists.intro
                       refine ⟨fun wz hw _ => ?_, ?_⟩
                       · have hcz := hw.cells.1
                         go_simp
                         (with_reducible exact Rg.up_value)
                       simp only [Act.put, List.setIfInBounds_toArray, List.set_cons_zero, List.set_cons_succ])
                      (refine Rr.wr_y (by simp only [List.getElem?_toArray, List.getElem?_cons_succ, List.getElem?_cons_zero]; rfl) (by rfl) ?_
                       apply Exists.intro
                       refine ⟨fun wz hw _ => ?_, ?_⟩
                       · have hcz := hw.cells.1
                         go_simp
                         (with_reducible exact Rg.up_value)
                       simp only [Act.put, List.setIfInBounds_toArray, List.set_cons_zero, List.set_cons_succ])
                      (refine Rr.wr_y (by simp only [List.getElem?_toArray, List.getElem?_cons_succ, List.getElem?_cons_zero]; rfl) (by rfl) ?_
                       apply Exists.intro
                       refine ⟨fun wz hw _ => ?_, ?_⟩
                       · have hcz := hw.cells.1
                         go_simp
                         (with_reducible exact Rg.up_value)
                       simp only [Act.put, List.setIfInBounds_toArray, List.set_cons_zero, List.set_cons_succ])
                      (refine Rr.wr_y (by simp only [List.getElem?_toArray, List.getElem?_cons_succ, List.getElem?_cons_zero]; rfl) (by rfl) ?_
                       apply Exists.intro
                       refine ⟨fun wz hw _ => ?_, ?_⟩
                       · have hcz := hw.cells.1
                         go_simp
                         (with_reducible exact Rg.up_value)
                       simp only [Act.put, List.setIfInBounds_toArray, List.set_cons_zero, List.set_cons_succ])
                      (refine Rr.wr_y (by simp only [List.getElem?_toArray, List.getElem?_cons_succ, List.getElem?_cons_zero]; rfl) (by rfl) ?_
                       apply Exists.intro
                       refine ⟨fun wz hw _ => ?_, ?_⟩
                       · have hcz := hw.cells.1
                         go_simp
                         (with_reducible exact Rg.up_value)
                       simp only [Act.put, List.setIfInBounds_toArray, List.set_cons_zero, List.set_cons_succ])
                      refine Rr.wr_nil ?_
                      intro wy hy hh
                      simp only [List.length_cons, List.length_nil, List.drop_succ_cons, List.drop_zero, Nat.reduceAdd]
                      clear hh
                      have hrowy := row_ext hrowd hy
                      obtain ⟨g', cap', eg, -, hcy, hfy⟩ := row_ints hrowy htl (by omega)
                      injection eg with eg _ _
                      injection eg with eg
                      injection eg with eg _ _
                      subst eg
                      have ciy := hcy i hti
                      have fiy := hfy i
                      clear hcy hfy
                      go_wp2_with (fail)
                      refine ⟨⟨a + 1, ts.set i (bor ts[i] ts[m]), true, by simp, by omega, rfl, by simpa using htl, row_store hrowy i _, HST, Below.setCell (hxwd.trans hy) hBg _, Lib.hid (.inr ⟨rfl, ?_⟩)⟩, by simp; omega⟩
                      rcases HC.out with ⟨-, rfl, -⟩ | ⟨-, h⟩
                      · exact HUS.out
                      · have := HUS.out; omega
                · obtain rfl : a = frm.length := by omega
                  go_wp2_with (fail)
                  refine ⟨⟨i + 1, ts, ch, by simp, by omega, rfl, htl, hrow, HI, hx, Lib.hid (HC.out.imp (fun ⟨a1, a2, a3, a4⟩ => ⟨a1, a2, fun k hk hki => ?_⟩) fun h => h)⟩, by simp; omega⟩
                  by_cases e : k = i
                  · subst e
                    rw [List.take_length, Hfrm.out] at a4
                    exact a4
                  · exact a3 k hk (by omega)
            · obtain rfl : i = j := by omega
              have hmeas : uS (rdL wr ov) = uS ys := rdL_row (B := w.heap.size) (by rw [hyl]; exact hrow)
              have HM := Lib.hid hmeas; clear hmeas
              go_wp2_with (fail)
              refine ⟨⟨ys, ch, rfl, hyl, hrow, HI, hx, Lib.hid (HC.out.symm.imp (fun h => h.1) fun h => fun k hk => h.2.2 k hk (by omega))⟩, ?_⟩
              have h1 := HM.out
              have h2 := HME.out
              rw [h1, h2]
              rcases HC.out with ⟨rfl, rfl, -⟩ | ⟨rfl, h⟩
              · show 2 * uS ys + 0 < 2 * uS ys + 1
                omega
              · show 2 * uS ys + 1 < 2 * uS zs + 1
                omega

end Go.Proofs.Ythdhlocoiipbaaa
