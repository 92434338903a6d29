/-
  RelayRaw: arbitrary times, askers and texts. Nothing is asked.
-/
import Derived.Test.YtbeoihjfjkbfhaaLwP
import Derived.Test.YtbeoihjfjkbfhaaLawT
namespace Go.Proofs.Ytbeoihjfjkbfhaa
set_option linter.unusedVariables false
set_option linter.unusedSimpArgs false
open Go.RowKit
/-- Both relays, with all that lay below them; m blocks or more. -/
structure QL (w0 : World) (m : Nat) (w : World) (p1 p2 : Nat) (r1 r2 : Rl) : Prop where
  two : C2 w0.heap.size w p1 p2 r1 r2
  bel : Ext w0 w
  sz : m ≤ w.heap.size
theorem QL.ext {w0 w w' : World} {m p1 p2 : Nat} {r1 r2 : Rl} (h : QL w0 m w p1 p2 r1 r2) (x : Ext w w') : QL w0 m w' p1 p2 r1 r2 := ⟨h.two.ext x, h.bel.trans x, Nat.le_trans h.sz x.size⟩
theorem QL.ask1 {w0 V0 V : World} {m p1 p2 : Nat} {r1 r2 : Rl} (h0 : QL w0 m V0 p1 p2 r1 r2) (x : Ext V0 V) (q : Qn) (t : Int) (hw : OkI q.who) (ht : OkI t) :
    Calls Try.prog 20 #[.pointer (some ⟨p1, 0, none⟩), .int .i64 q.who, .int .i64 t, .string q.text] V fun e w' => e = .returned (.int .i64 (askE r1 q t)) ∧ QL w0 m w' p1 p2 (askR r1 q t) r2 := by
  have h := h0.ext x
  exact (h.two.ask1 q t hw ht).mono fun _ _ ⟨a, b, c, d⟩ => ⟨a, b, Below.trans h.bel c, Nat.le_trans h.sz c.size⟩
theorem QL.ask2 {w0 V0 V : World} {m p1 p2 : Nat} {r1 r2 : Rl} (h0 : QL w0 m V0 p1 p2 r1 r2) (x : Ext V0 V) (q : Qn) (t : Int) (hw : OkI q.who) (ht : OkI t) :
    Calls Try.prog 21 #[.pointer (some ⟨p2, 0, none⟩), .int .i64 q.who, .int .i64 t, .string q.text] V fun e w' => e = .returned (.int .i64 (askE r2 q t)) ∧ QL w0 m w' p1 p2 r1 (askR r2 q t) := by
  have h := h0.ext x
  exact (h.two.ask2 q t hw ht).mono fun _ _ ⟨a, b, c, d⟩ => ⟨a, b, Below.trans h.bel c, Nat.le_trans h.sz c.size⟩
theorem QL.tick1 {w0 V0 V : World} {m p1 p2 : Nat} {r1 r2 : Rl} (h0 : QL w0 m V0 p1 p2 r1 r2) (x : Ext V0 V) (t : Int) (ht : OkI t) :
    Calls Try.prog 16 #[.pointer (some ⟨p1, 0, none⟩), .int .i64 t] V fun e w' => ∃ u, e = .returned u ∧ BatR m w' u (tickF r1 t).1 ∧ QL w0 m w' p1 p2 (tickF r1 t).2 r2 := by
  have h := h0.ext x
  exact (h.two.tick1 t ht).mono fun _ _ ⟨u, a, b, c, d, _⟩ => ⟨u, a, b.mono h.sz, c, Below.trans h.bel d, Nat.le_trans h.sz d.size⟩
theorem QL.tick2 {w0 V0 V : World} {m p1 p2 : Nat} {r1 r2 : Rl} (h0 : QL w0 m V0 p1 p2 r1 r2) (x : Ext V0 V) (t : Int) (ht : OkI t) (hm : p2 < m) (ua : Value) (o : Option (List ByteArray)) (hb : BatR m V0 ua o) :
    Calls Try.prog 17 #[.pointer (some ⟨p2, 0, none⟩), .int .i64 t] V fun e w' => ∃ u, e = .returned u ∧ BatR m w' u (tickF r2 t).1 ∧ BatR m w' ua o ∧ QL w0 m w' p1 p2 r1 (tickF r2 t).2 := by
  have h := h0.ext x
  exact (h.two.tick2 t ht).mono fun _ _ ⟨u, a, b, c, d, k⟩ => ⟨u, a, b.mono h.sz, (hb.ext x).kc k hm, c, Below.trans h.bel d, Nat.le_trans h.sz d.size⟩
theorem QL.same {w0 V0 V : World} {m p1 p2 : Nat} {r1 r2 : Rl} (h0 : QL w0 m V0 p1 p2 r1 r2) (x : Ext V0 V) (ua ub : Value) (o : Option (List ByteArray)) (ha : BatR m V0 ua o) (hb : BatR m V0 ub o) (l : ∀ ts, o = some ts → ts.length ≤ 1000000) :
    Calls Try.prog 15 #[ua, ub] V fun e w' => e = .returned (.bool true) ∧ QL w0 m w' p1 p2 r1 r2 :=
  (same_true ua ub o V (ha.ext x) (hb.ext x) l).mono fun _ _ ⟨a, b⟩ => ⟨a, (h0.ext x).ext b⟩
set_option maxRecDepth 100000 in
set_option maxHeartbeats 16000000 in
theorem raw_walk (v0 v1 v2 : Value) (ws : List Int) (ts : List (List Int)) (xs : List ByteArray) (w : World) (h0 : IRd w v0 ws) (h1 : RN 2 w v1 ts) (h2 : TRd w v2 xs) :
    Calls Try.prog 4 #[v0, v1, v2] w fun e w' => e = .returned (.bool true) ∧ Ext w w' := by
  obtain ⟨wb, wc, rfl, hwl, -⟩ := id h0
  obtain ⟨tb, tc, rfl, htl⟩ := h1.form
  obtain ⟨xb, xc, rfl, hxl⟩ := h2.form
  have H0 := Lib.hid h0; have H1 := Lib.hid h1; have H2 := Lib.hid h2
  clear h0 h1 h2
  go_enter Try.func4, Try.ntmps4
  go_upto_region 2 with (go_at_call 11; (with_reducible refine (sanity_any _).mono ?_); rintro e w1 ⟨rfl, hx1⟩)
  have HX1 := Lib.hid hx1
  have HW := Lib.hid (H0.out.ext hx1); have HT := Lib.hid (H1.out.ext hx1); have HS := Lib.hid (H2.out.ext hx1)
  clear hx1 H0 H1 H2
  go_upto_region 3 with (go_at_call 12; (with_reducible refine (new_x 2 7 _ (okI_small (by decide)) (okI_small (by decide))).mono ?_); rintro e w2 ⟨rfl, hr2, hx2⟩)
  have HX2 := Lib.hid hx2; have HR2 := Lib.hid hr2
  obtain ⟨p1, hp⟩ : ∃ p, p = w1.heap.size := ⟨_, rfl⟩
  rw [← hp]
  have HP := Lib.hid hp
  clear hp hx2 hr2
  go_upto_region 4 with (go_at_call 13; (with_reducible refine (rnew_any 2 7 _ (okI_small (by decide)) (okI_small (by decide))).mono ?_); rintro e w3 ⟨rfl, hr3, hx3⟩)
  have hC := C2.made HR2.out rfl hr3 hx3
  replace hC : C2 w1.heap.size w3 p1 w2.heap.size ⟨2, 7, [], 0, false, false⟩ ⟨2, 7, [], 0, false, false⟩ := by rw [HP.out]; exact hC
  obtain ⟨p2, hp2⟩ : ∃ p, p = w2.heap.size := ⟨_, rfl⟩
  rw [← hp2] at hC ⊢
  have HQ3 : Hid (QL w1 0 w3 p1 p2 ⟨2, 7, [], 0, false, false⟩ ⟨2, 7, [], 0, false, false⟩) := Lib.hid ⟨hC, HX2.out.trans hx3, Nat.zero_le _⟩
  clear hp2 hr3 hx3 HR2 HX2 hC HP
  go_wp2_with (fail)
  go_loopw [10] (fun k wr => ∃ (i : Nat) (r : Rl), k = .int .i64 i ∧ i ≤ 12 ∧ Hid (QL w1 0 wr p1 p2 r r)) (fun k _ => 12 - (iof k).toNat)
  case atStart => exact ⟨0, _, rfl, by omega, HQ3⟩
  case round =>
    obtain ⟨i, r, rfl, hi, HQ⟩ := hrel
    clear HQ3
    by_cases c1 : (i : Int) < ws.length
    · by_cases c2 : (i : Int) < ts.length
      · by_cases c3 : (i : Int) < xs.length
        · by_cases c4 : (i : Int) < 12
          · obtain ⟨gw, ow, rfl, lw, kw, okw⟩ := ird_at HW.out i (by omega)
            obtain ⟨gt, ot, t0, t1, rfl, lt, kt0, kt1, okt0, okt1⟩ := pair_at HT.out i (by omega)
            obtain ⟨gx, ox, rfl, lx, kx, okx⟩ := txt_at HS.out i (by omega)
            generalize ws[i] = who at *
            generalize xs[i] = tx at *
            have HKW := Lib.hid kw; have HK0 := Lib.hid kt0; have HK1 := Lib.hid kt1
            have HLW := Lib.hid lw; have HLT := Lib.hid lt
            have a1 := (HQ.out.bel.cells.1 _ _ lx).trans kx
            have lx1 := Nat.lt_of_lt_of_le lx HQ.out.bel.size
            clear kw kt0 kt1 kx lw lt lx
            go_upto_region 9 with (fail)
            obtain ⟨ct, hct⟩ : ∃ ct, ct = tx.extract 0 (min (tx.size : Int) 60).toNat := ⟨_, rfl⟩
            have hsl : ∀ wz, (Instr.slice 9 (.string tx) none (some (.int .i64 (min (tx.size : Int) 60))) none).run Try.prog wz = .ok (.string ct) wz := fun wz => by
              rw [run_slice_string_h wz 9 tx Try.underlying9 .i64 (min (tx.size : Int) 60) (by omega) (by omega), hct]
            clear hct
            refine Rr.wp_region ((List.range 10).map (fun i => (i, .y))) (fun _ => (.cells #[] 29, Rg.ptr)) (by kernel_rfl) (by kernel_rfl) ?_
            simp only [List.range, List.range.loop, List.map_cons, List.map_nil]
            (refine Rr.wr_y (by simp only [List.getElem?_toArray, List.getElem?_cons_succ, List.getElem?_cons_zero]; rfl) (by rfl) ?_
             apply Exists.intro
             refine ⟨fun wz hw _ => ?_, ?_⟩
             · have hcz := hw.cells.1
               go_simp
               (with_reducible exact Rg.up_value)
             simp only [Act.put, List.setIfInBounds_toArray, List.set_cons_zero, List.set_cons_succ])
            (refine Rr.wr_y (by simp only [List.getElem?_toArray, List.getElem?_cons_succ, List.getElem?_cons_zero]; rfl) (by rfl) ?_
             apply Exists.intro
             refine ⟨fun wz hw _ => ?_, ?_⟩
             · have hcz := hw.cells.1
               go_simp
               (with_reducible exact Rg.up_value)
             simp only [Act.put, List.setIfInBounds_toArray, List.set_cons_zero, List.set_cons_succ])
            (refine Rr.wr_y (by simp only [List.getElem?_toArray, List.getElem?_cons_succ, List.getElem?_cons_zero]; rfl) (by rfl) ?_
             apply Exists.intro
             refine ⟨fun wz hw _ => ?_, ?_⟩
             · have hcz := hw.cells.1
               go_simp
               (with_reducible exact Rg.up_value)
             simp only [Act.put, List.setIfInBounds_toArray, List.set_cons_zero, List.set_cons_succ])
            (refine Rr.wr_y (by simp only [List.getElem?_toArray, List.getElem?_cons_succ, List.getElem?_cons_zero]; rfl) (by rfl) ?_
             apply Exists.intro
             refine ⟨fun wz hw _ => ?_, ?_⟩
             · have hcz := hw.cells.1
               go_simp
               (with_reducible exact Rg.up_value)
             simp only [Act.put, List.setIfInBounds_toArray, List.set_cons_zero, List.set_cons_succ])
            (refine Rr.wr_y (by simp only [List.getElem?_toArray, List.getElem?_cons_succ, List.getElem?_cons_zero]; rfl) (by rfl) ?_
             apply Exists.intro
             refine ⟨fun wz hw _ => ?_, ?_⟩
             · have hcz := hw.cells.1
               go_simp
               (with_reducible exact Rg.up_value)
             simp only [Act.put, List.setIfInBounds_toArray, List.set_cons_zero, List.set_cons_succ])
            (refine Rr.wr_y (by simp only [List.getElem?_toArray, List.getElem?_cons_succ, List.getElem?_cons_zero]; rfl) (by rfl) ?_
             apply Exists.intro
             refine ⟨fun wz hw _ => ?_, ?_⟩
             · have hcz := hw.cells.1
               go_simp
               (with_reducible exact Rg.up_value)
             simp only [Act.put, List.setIfInBounds_toArray, List.set_cons_zero, List.set_cons_succ])
            (refine Rr.wr_y (by simp only [List.getElem?_toArray, List.getElem?_cons_succ, List.getElem?_cons_zero]; rfl) (by rfl) ?_
             apply Exists.intro
             refine ⟨fun wz hw _ => ?_, ?_⟩
             · have hcz := hw.cells.1
               go_simp
               (with_reducible exact Rg.up_value)
             simp only [Act.put, List.setIfInBounds_toArray, List.set_cons_zero, List.set_cons_succ])
            (refine Rr.wr_y (by simp only [List.getElem?_toArray, List.getElem?_cons_succ, List.getElem?_cons_zero]; rfl) (by rfl) ?_
             apply Exists.intro
             refine ⟨fun wz hw _ => ?_, ?_⟩
             · have hcz := hw.cells.1
               go_simp
               (with_reducible exact Rg.up_value)
             simp only [Act.put, List.setIfInBounds_toArray, List.set_cons_zero, List.set_cons_succ])
            (refine Rr.wr_y (by simp only [List.getElem?_toArray, List.getElem?_cons_succ, List.getElem?_cons_zero]; rfl) (by rfl) ?_
             apply Exists.intro
             refine ⟨fun wz hw _ => ?_, ?_⟩
             · have hcz := hw.cells.1
               go_simp
               (with_reducible exact Rg.up_value)
             simp only [Act.put, List.setIfInBounds_toArray, List.set_cons_zero, List.set_cons_succ])
            (refine Rr.wr_y (by simp only [List.getElem?_toArray, List.getElem?_cons_succ, List.getElem?_cons_zero]; rfl) (by rfl) ?_
             apply Exists.intro
             refine ⟨fun wz hw _ => ?_, ?_⟩
             · have hcz := hw.cells.1
               go_simp
               (with_reducible exact Rg.up_value)
             simp only [Act.put, List.setIfInBounds_toArray, List.set_cons_zero, List.set_cons_succ])
            refine Rr.wr_nil ?_
            intro wy hy hh
            clear hh
            simp only [List.length_cons, List.length_nil, List.drop_succ_cons, List.drop_zero, Nat.reduceAdd]
            have hq := HQ.out.ext hy
            clear a1 lx1 hy
            go_upto_region 10 with (fail)
            clear hsl
            have HP2 := Lib.hid hq.two.lt.2.2.2.1
            have hqm : QL w1 wy.heap.size wy p1 p2 r r := ⟨hq.two, hq.bel, Nat.le_refl _⟩
            obtain ⟨M, hM⟩ : ∃ M, M = wy.heap.size := ⟨_, rfl⟩
            rw [← hM] at hqm HP2
            have HS : Hid (∀ V r1 r2, QL w1 M V p1 p2 r1 r2 → V.cell? ⟨gw, ow + i, none⟩ = some (.int .i64 who) ∧ V.cell? ⟨gt, ot + i * 2, none⟩ = some (.int .i64 t0) ∧ V.cell? ⟨gt, ot + i * 2 + 1, none⟩ = some (.int .i64 t1)) := Lib.hid fun V r1 r2 h =>
              ⟨(h.bel.cells.1 _ _ HLW.out).trans HKW.out, (h.bel.cells.1 _ _ HLT.out).trans HK0.out, (h.bel.cells.1 _ _ HLT.out).trans HK1.out⟩
            have HG1 := Lib.hid (fun V0 V (h : QL w1 M V0 p1 p2 r r) x => h.ask1 (V := V) x ⟨who, ct⟩ t0 okw okt0)
            have HG2 := Lib.hid (fun V0 V (h : QL w1 M V0 p1 p2 (askR r ⟨who, ct⟩ t0) r) x => h.ask2 (V := V) x ⟨who, ct⟩ t0 okw okt0)
            generalize askE r ⟨who, ct⟩ t0 = er at *
            generalize askR r ⟨who, ct⟩ t0 = r' at *
            have HLE := Lib.hid (fun V ts (h : QL w1 M V p1 p2 r' r') (e : (tickF r' t1).1 = some ts) => tick_len e h.two.lt.2.2.2.2.2.1)
            have HG3 := Lib.hid (fun V0 V (h : QL w1 M V0 p1 p2 r' r') x => h.tick1 (V := V) x t1 okt1)
            have HG4 := Lib.hid (fun V0 V ua (h : QL w1 M V0 p1 p2 (tickF r' t1).2 r') x hb => h.tick2 (V := V) x t1 okt1 HP2.out ua (tickF r' t1).1 hb)
            generalize (tickF r' t1).1 = ob at *
            generalize (tickF r' t1).2 = r'' at *
            obtain ⟨k1, k2, k3⟩ := HS.out _ _ _ hqm
            clear hM hq HQ HP2 HKW HK0 HK1 HLW HLT
            go_region_held3 (fun w' => w'.cell? ⟨gw, ow + i, none⟩ = some (.int .i64 who) ∧ w'.cell? ⟨gt, ot + i * 2, none⟩ = some (.int .i64 t0) ∧ w'.cell? ⟨gt, ot + i * 2 + 1, none⟩ = some (.int .i64 t1)) (first | exact ke' | exact kd' | exact kc' | exact kb' | exact ka' | exact ⟨k1, k2, k3⟩ | go_keep)
              (first
                | (go_at_call 20; refine (HG1.out _ _ hqm (by with_reducible repeat (first | exact Ext.refl _ | assumption | apply Ext.drewN | apply Ext.drew | apply Ext.alloc | (refine Ext.setCell ?_ (by simp <;> omega) _) | (refine Ext.trans ?_ (by assumption))))).mono ?_; rintro e wa ⟨rfl, hqa⟩; have ka' := HS.out _ _ _ hqa)
                | (go_at_call 21; refine (HG2.out _ _ hqa (by with_reducible repeat (first | exact Ext.refl _ | assumption | apply Ext.drewN | apply Ext.drew | apply Ext.alloc | (refine Ext.setCell ?_ (by simp <;> omega) _) | (refine Ext.trans ?_ (by assumption))))).mono ?_; rintro e wb ⟨rfl, hqb⟩; have kb' := HS.out _ _ _ hqb)
                | (go_at_call 16; refine (HG3.out _ _ hqb (by with_reducible repeat (first | exact Ext.refl _ | assumption | apply Ext.drewN | apply Ext.drew | apply Ext.alloc | (refine Ext.setCell ?_ (by simp <;> omega) _) | (refine Ext.trans ?_ (by assumption))))).mono ?_; rintro e wc ⟨ua, rfl, hba, hqc⟩; have kc' := HS.out _ _ _ hqc)
                | (go_at_call 17; refine (HG4.out _ _ ua hqc (by with_reducible repeat (first | exact Ext.refl _ | assumption | apply Ext.drewN | apply Ext.drew | apply Ext.alloc | (refine Ext.setCell ?_ (by simp <;> omega) _) | (refine Ext.trans ?_ (by assumption)))) hba).mono ?_; rintro e wd ⟨ub, rfl, hbb, hba2, hqd⟩; have kd' := HS.out _ _ _ hqd)
                | (go_at_call 15; refine (hqd.same (by with_reducible repeat (first | exact Ext.refl _ | assumption | apply Ext.drewN | apply Ext.drew | apply Ext.alloc | (refine Ext.setCell ?_ (by simp <;> omega) _) | (refine Ext.trans ?_ (by assumption)))) ua ub ob hba2 hbb (fun ts h => HLE.out _ ts hqb h)).mono ?_; rintro e we ⟨rfl, hqe⟩; have ke' := HS.out _ _ _ hqe))
            have HE := Lib.hid hqe
            clear hqm hqa hqb hqc hqd hqe hba hba2 hbb ka' kb' kc' kd' ke' k1 k2 k3 HG1 HG2 HG3 HG4 HLE HS
            go_wp2_with (fail)
            exact ⟨⟨i + 1, r'', by simp, by omega, Lib.hid ⟨HE.out.two, HE.out.bel, Nat.zero_le _⟩⟩, by simp [iof]; omega⟩
          · skip
            have HW1 := Lib.hid (HQ.out.two.wait1 _ rfl); have HW2 := Lib.hid (HQ.out.two.wait2 _ rfl)
            go_wp2_with (first
              | (go_at_call 22; (with_reducible refine HW1.out.mono ?_); rintro e w6 ⟨rfl, hw6⟩; have h9 := hw6.symm; clear hw6; subst h9)
              | (go_at_call 23; (with_reducible refine HW2.out.mono ?_); rintro e w6 ⟨rfl, hw6⟩; have h9 := hw6.symm; clear hw6; subst h9))
            go_ret
            exact ⟨rfl, HX1.out.trans HQ.out.bel⟩
        · skip
          have HW1 := Lib.hid (HQ.out.two.wait1 _ rfl); have HW2 := Lib.hid (HQ.out.two.wait2 _ rfl)
          go_wp2_with (first
            | (go_at_call 22; (with_reducible refine HW1.out.mono ?_); rintro e w6 ⟨rfl, hw6⟩; have h9 := hw6.symm; clear hw6; subst h9)
            | (go_at_call 23; (with_reducible refine HW2.out.mono ?_); rintro e w6 ⟨rfl, hw6⟩; have h9 := hw6.symm; clear hw6; subst h9))
          go_ret
          exact ⟨rfl, HX1.out.trans HQ.out.bel⟩
      · skip
        have HW1 := Lib.hid (HQ.out.two.wait1 _ rfl); have HW2 := Lib.hid (HQ.out.two.wait2 _ rfl)
        go_wp2_with (first
          | (go_at_call 22; (with_reducible refine HW1.out.mono ?_); rintro e w6 ⟨rfl, hw6⟩; have h9 := hw6.symm; clear hw6; subst h9)
          | (go_at_call 23; (with_reducible refine HW2.out.mono ?_); rintro e w6 ⟨rfl, hw6⟩; have h9 := hw6.symm; clear hw6; subst h9))
        go_ret
        exact ⟨rfl, HX1.out.trans HQ.out.bel⟩
    · skip
      have HW1 := Lib.hid (HQ.out.two.wait1 _ rfl); have HW2 := Lib.hid (HQ.out.two.wait2 _ rfl)
      go_wp2_with (first
        | (go_at_call 22; (with_reducible refine HW1.out.mono ?_); rintro e w6 ⟨rfl, hw6⟩; have h9 := hw6.symm; clear hw6; subst h9)
        | (go_at_call 23; (with_reducible refine HW2.out.mono ?_); rintro e w6 ⟨rfl, hw6⟩; have h9 := hw6.symm; clear hw6; subst h9))
      go_ret
      exact ⟨rfl, HX1.out.trans HQ.out.bel⟩
end Go.Proofs.Ytbeoihjfjkbfhaa
