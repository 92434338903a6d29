/-
  Joined: the lemmas of this claim that other texts of it use, part 8. Nothing is asked.
-/
import Derived.Test.YtbeoihjfjkbfhaaJnG
namespace Go.Proofs.Ytbeoihjfjkbfhaa
set_option linter.unusedVariables false
set_option linter.unusedSimpArgs false
open Go.RowKit
theorem same_true {n1 n2 : Nat} (v1 v2 : Value) (o : Option (List ByteArray)) (w : World) (h1 : BatR n1 w v1 o) (h2 : BatR n2 w v2 o) (l : ∀ ts, o = some ts → ts.length ≤ 1000000) :
    Calls Try.prog 15 #[v1, v2] w fun e w' => e = .returned (.bool true) ∧ Ext w w' :=
  (same_any v1 v2 o o w h1 h2 l l).mono fun _ _ ⟨a, b⟩ => ⟨by rw [a, decide_eq_true rfl], b⟩
theorem PL.c2 {w0 w : World} {p1 p2 qa : Nat} {a0 a1 a2 a3 : Value} {r1 r2 : Rl} (h : PL w0 w p1 p2 qa #[a0, a1, a2, a3] r1 r2) : w.cell? ⟨qa, 1, none⟩ = some a1 ∧ w.cell? ⟨qa, 3, none⟩ = some a3 := by
  have h1 := cell_of_row w qa 1 _ _ _ h.row
  have h3 := cell_of_row w qa 3 _ _ _ h.row
  exact ⟨h1, h3⟩
set_option maxRecDepth 100000 in
set_option maxHeartbeats 16000000 in
theorem play_any (v : Value) (ls : List (List Int)) (w0 w : World) (hl : RN 4 w0 v ls) (p1 p2 : Nat) (r : Rl) (h : C2 w0.heap.size w p1 p2 r r) (hx : Ext w0 w) :
    Calls Try.prog 14 #[.pointer (some ⟨p1, 0, none⟩), .pointer (some ⟨p2, 0, none⟩), v] w fun e w' => ∃ (t : Int) (r' : Rl), e = .returned (.tuple #[.int .i64 t, .bool true]) ∧ 0 ≤ t ∧ t ≤ 1000 ∧ C2 w0.heap.size w' p1 p2 r' r' ∧ Ext w0 w' := by
  obtain ⟨base, cp, rfl, hlen⟩ := hl.form
  have HH := Lib.hid h; have HX0 := Lib.hid hx; have HL := Lib.hid hl; have HLEN := Lib.hid hlen
  clear h hx hl hlen
  go_enter Try.func14, Try.ntmps14
  go_wp2_with (fail)
  go_loopw [8, 9] (fun tm k wr => ∃ (i : Nat) (t : Int) (r : Rl), k = .int .i64 i ∧ tm = .int .i64 t ∧ i ≤ 30 ∧ i ≤ ls.length ∧ 0 ≤ t ∧ t ≤ 25 * i ∧ Hid (C2 w0.heap.size wr p1 p2 r r) ∧ Hid (Ext w0 wr)) (fun _ k _ => 30 - (iof k).toNat)
  case atStart => exact ⟨0, 0, r, rfl, rfl, by omega, by omega, by omega, by omega, HH, HX0⟩
  case round =>
    obtain ⟨i, t, r, rfl, rfl, hi, hil, t0, t1, HR, HX⟩ := hrel
    clear HH HX0
    by_cases hi2 : i < ls.length ∧ i < 30
    · obtain ⟨hi3, hi4⟩ := hi2
      obtain ⟨b, off, q0, q1, q2, q3, rfl, bl0, k0, k1, k2, k3, o0, o1, o2, o3, -⟩ := act_at HL.out i hi3
      have bl : b < wr.heap.size := Nat.lt_of_lt_of_le bl0 HX.out.size
      have c0 := (HX.out.cells.1 _ _ bl0).trans k0
      have c1 := (HX.out.cells.1 _ _ bl0).trans k1
      have c2 := (HX.out.cells.1 _ _ bl0).trans k2
      have c3 := (HX.out.cells.1 _ _ bl0).trans k3
      clear k0 k1 k2 k3 bl0
      have hlc : (i : Int) < (ls.length : Int) := by omega
      have hi20 : (i : Int) < 30 := by omega
      obtain ⟨s, hs⟩ : ∃ s, s = q2 % 25 := ⟨_, rfl⟩
      have s0 : 0 ≤ s := by omega
      have s1 : s < 25 := by omega
      have HM2 := Lib.hid (fun w => mod_any q2 25 (by decide) (by decide) o2 w)
      rw [← hs] at HM2
      clear hs
      obtain ⟨kd, hkd⟩ : ∃ kd, kd = q0 % 9 := ⟨_, rfl⟩
      have kd0 : 0 ≤ kd := by omega
      have kd1 : kd < 9 := by omega
      have HM0 := Lib.hid (fun w => mod_any q0 9 (by decide) (by decide) o0 w)
      rw [← hkd] at HM0
      clear hkd
      obtain ⟨m, hm⟩ : ∃ m, m = q1 % 5 := ⟨_, rfl⟩
      have m0 : 0 ≤ m := by omega
      have m1 : m < 5 := by omega
      have HM1 := Lib.hid (fun w => mod_any q1 5 (by decide) (by decide) o1 w)
      rw [← hm] at HM1
      clear hm
      go_upto_region 6 with (fail)
      have hxa : Ext wr (wr.alloc (.cells #[.int .i64 q0, .int .i64 q1, .int .i64 q2, .int .i64 q3] 46)) := Ext.alloc (Ext.refl _) _
      have hrow := alloc_at wr (.cells #[.int .i64 q0, .int .i64 q1, .int .i64 q2, .int .i64 q3] 46)
      obtain ⟨qa, hqa⟩ : ∃ qa, qa = wr.heap.size := ⟨_, rfl⟩
      rw [← hqa] at hrow ⊢
      have HPL : Hid (PL w0 (wr.alloc (.cells #[.int .i64 q0, .int .i64 q1, .int .i64 q2, .int .i64 q3] 46)) p1 p2 qa #[.int .i64 q0, .int .i64 q1, .int .i64 q2, .int .i64 q3] r r) := Lib.hid ⟨HR.out.ext hxa, hrow, HX.out.trans hxa⟩
      clear hqa hxa hrow c0 c1 c2 c3 bl HR HX
      generalize wr.alloc (.cells #[.int .i64 q0, .int .i64 q1, .int .i64 q2, .int .i64 q3] 46) = W at *
      have d0 := cell_of_row W qa 0 _ _ _ HPL.out.row; have d1 := cell_of_row W qa 1 _ _ _ HPL.out.row; have d2 := cell_of_row W qa 2 _ _ _ HPL.out.row; have d3 := cell_of_row W qa 3 _ _ _ HPL.out.row
      change W.cell? _ = some (.int .i64 q0) at d0
      change W.cell? _ = some (.int .i64 q1) at d1
      change W.cell? _ = some (.int .i64 q2) at d2
      change W.cell? _ = some (.int .i64 q3) at d3
      go_upto_region 7 with (go_at_call 24; (with_reducible refine (HM2.out _).mono ?_); rintro e w3 ⟨rfl, rfl⟩)
      obtain ⟨T, hT⟩ : ∃ T, T = t + s := ⟨_, rfl⟩
      rw [← hT]
      have T0 : 0 ≤ T := by omega
      have T1 : T ≤ 25 * ((i : Int) + 1) := by omega
      clear hT t0 t1 s0 s1 HM2
      by_cases h13 : q2.tmod 13 = 12
      · obtain ⟨T2, hT2⟩ : ∃ T2, T2 = T - 30 := ⟨_, rfl⟩
        have HT2 := Lib.hid hT2
        have T20 : -30 ≤ T2 := by omega
        have T21 : T2 ≤ 1000 := by omega
        go_upto_region 10 with (fail)
        rw [← hT2]
        clear hT2
        by_cases hk6 : kd < 6
        · skip
          have HG1 : Hid (∀ V0 V, PL w0 V0 p1 p2 qa #[.int .i64 q0, .int .i64 q1, .int .i64 q2, .int .i64 q3] r r → Ext V0 V → Calls Try.prog 20 #[.pointer (some ⟨p1, 0, none⟩), .int .i64 m, .int .i64 T2, .string (txtF q3)] V fun e w' => e = .returned (.int .i64 (askE r ⟨m, txtF q3⟩ T2)) ∧ PL w0 w' p1 p2 qa #[.int .i64 q0, .int .i64 q1, .int .i64 q2, .int .i64 q3] (askR r ⟨m, txtF q3⟩ T2) r) := Lib.hid fun V0 V hV0 hx0 => have hV := hV0.ext hx0
            (hV.two.ask1 ⟨m, txtF q3⟩ T2 (okI_small (by simp only; omega)) (okI_small (by omega))).mono fun _ _ ⟨a, b, c, d⟩ => ⟨a, hV.step1 b c (.inl d)⟩
          have HG2 : Hid (∀ V0 V, PL w0 V0 p1 p2 qa #[.int .i64 q0, .int .i64 q1, .int .i64 q2, .int .i64 q3] (askR r ⟨m, txtF q3⟩ T2) r → Ext V0 V → Calls Try.prog 21 #[.pointer (some ⟨p2, 0, none⟩), .int .i64 m, .int .i64 T2, .string (txtF q3)] V fun e w' => e = .returned (.int .i64 (askE r ⟨m, txtF q3⟩ T2)) ∧ PL w0 w' p1 p2 qa #[.int .i64 q0, .int .i64 q1, .int .i64 q2, .int .i64 q3] (askR r ⟨m, txtF q3⟩ T2) (askR r ⟨m, txtF q3⟩ T2)) := Lib.hid fun V0 V hV0 hx0 => have hV := hV0.ext hx0
            (hV.two.ask2 ⟨m, txtF q3⟩ T2 (okI_small (by simp only; omega)) (okI_small (by omega))).mono fun _ _ ⟨a, b, c, d⟩ => ⟨a, hV.step1 b c (.inr d)⟩
          have HTX : Hid (∀ V0 V r1 r2, PL w0 V0 p1 p2 qa #[.int .i64 q0, .int .i64 q1, .int .i64 q2, .int .i64 q3] r1 r2 → Ext V0 V → Calls Try.prog 25 #[.int .i64 q3] V fun e w' => e = .returned (.string (txtF q3)) ∧ PL w0 w' p1 p2 qa #[.int .i64 q0, .int .i64 q1, .int .i64 q2, .int .i64 q3] r1 r2) := Lib.hid fun V0 V r1 r2 hV0 hx0 => have hV := hV0.ext hx0; (text_any q3 V o3).mono fun _ _ ⟨a, b⟩ => ⟨a, hV.ext b⟩
          generalize txtF q3 = tx at *
          generalize askE r ⟨m, tx⟩ T2 = er at *
          generalize askR r ⟨m, tx⟩ T2 = r' at *
          have hpl := HPL.out
          go_upto_region 14 with (go_at_call 24; (with_reducible refine (HM0.out _).mono ?_); rintro e wx ⟨rfl, rfl⟩)
          go_region_held3 (fun w' => w'.cell? ⟨qa, 1, none⟩ = some (.int .i64 q1) ∧ w'.cell? ⟨qa, 3, none⟩ = some (.int .i64 q3)) (first | exact kc' | exact ky' | exact kb' | exact kx' | exact ⟨d1, d3⟩ | go_keep)
            (first
              | (go_at_call 24; (with_reducible refine (HM1.out _).mono ?_); rintro e wx ⟨rfl, rfl⟩)
              | (go_at_call 25; refine (HTX.out _ _ r' r (by with_reducible assumption) (by with_reducible repeat (first | exact Ext.refl _ | assumption | apply Ext.drewN | apply Ext.drew | apply Ext.alloc | (refine Ext.setCell ?_ (by simp <;> omega) _) | (refine Ext.trans ?_ (by assumption))))).mono ?_; rintro e wx ⟨rfl, hpy⟩; have ky' := PL.c2 hpy)
              | (go_at_call 25; refine (HTX.out _ _ r r (by with_reducible assumption) (by with_reducible repeat (first | exact Ext.refl _ | assumption | apply Ext.drewN | apply Ext.drew | apply Ext.alloc | (refine Ext.setCell ?_ (by simp <;> omega) _) | (refine Ext.trans ?_ (by assumption))))).mono ?_; rintro e wx ⟨rfl, hpx⟩; have kx' := PL.c2 hpx)
              | (go_at_call 20; refine (HG1.out _ _ (by with_reducible assumption) (by with_reducible repeat (first | exact Ext.refl _ | assumption | apply Ext.drewN | apply Ext.drew | apply Ext.alloc | (refine Ext.setCell ?_ (by simp <;> omega) _) | (refine Ext.trans ?_ (by assumption))))).mono ?_; rintro e wb ⟨rfl, hpb⟩; have kb' := PL.c2 hpb)
              | (go_at_call 21; refine (HG2.out _ _ (by with_reducible assumption) (by with_reducible repeat (first | exact Ext.refl _ | assumption | apply Ext.drewN | apply Ext.drew | apply Ext.alloc | (refine Ext.setCell ?_ (by simp <;> omega) _) | (refine Ext.trans ?_ (by assumption))))).mono ?_; rintro e wc ⟨rfl, hpc⟩; have kc' := PL.c2 hpc))
          have HPE := Lib.hid hpc
          clear hpb hpc hpx hpy hpl kx' ky' kb' kc' d0 d1 d2 d3 HG1 HG2 HTX HM0 HM1 HPL
          have HW1 := Lib.hid (HPE.out.two.wait1 _ rfl); have HW2 := Lib.hid (HPE.out.two.wait2 _ rfl)
          go_wp2_with (first
            | (go_at_call 22; (with_reducible refine HW1.out.mono ?_); rintro e w6 ⟨rfl, hw6⟩; have h9 := hw6.symm; clear hw6; subst h9)
            | (go_at_call 23; (with_reducible refine HW2.out.mono ?_); rintro e w6 ⟨rfl, hw6⟩; have h9 := hw6.symm; clear hw6; subst h9))
          exact ⟨⟨i + 1, T, r', by simp, rfl, by omega, by omega, by omega, by omega, Lib.hid HPE.out.two, Lib.hid HPE.out.bel⟩, by simp [iof]; omega⟩
        · by_cases hk8 : kd < 8
          · skip
            have HK2 : Hid (∀ V, PL w0 V p1 p2 qa #[.int .i64 q0, .int .i64 q1, .int .i64 q2, .int .i64 q3] (tickF r T2).2 r → Calls Try.prog 17 #[.pointer (some ⟨p2, 0, none⟩), .int .i64 T2] V fun e w' => ∃ u, e = .returned u ∧ BatR V.heap.size w' u (tickF r T2).1 ∧ C2 w0.heap.size w' p1 p2 (tickF r T2).2 (tickF r T2).2 ∧ Below w0.heap.size V w' ∧ KC p2 V w') := Lib.hid fun V hV => hV.two.tick2 T2 (okI_small (by omega))
            have HLE := Lib.hid (fun ts (h : (tickF r T2).1 = some ts) => tick_len h HPL.out.two.lt.2.2.2.2.2.1)
            have HA1 := Lib.hid (HPL.out.two.tick1 T2 (okI_small (by omega)))
            generalize (tickF r T2).1 = ob at *
            generalize (tickF r T2).2 = r' at *
            go_upto_region 19 with (first
              | (go_at_call 24; (with_reducible refine (HM0.out _).mono ?_); rintro e wx ⟨rfl, rfl⟩)
              | (go_at_call 16; (with_reducible refine HA1.out.mono ?_); rintro e wa ⟨ua, rfl, hba, hca, hla, hka⟩; have HPA := Lib.hid (HPL.out.step1 hca hla (.inl hka)); have HA2 := Lib.hid (HK2.out _ HPA.out))
              | (go_at_call 17; (with_reducible refine HA2.out.mono ?_); rintro e wb ⟨ub, rfl, hbb, hcb, hlb, hkb⟩; have HPB := Lib.hid (HPA.out.step1 hcb hlb (.inr hkb)); have HSM := Lib.hid (same_true ua ub ob wb (hba.kc hkb HPL.out.two.lt.2.2.2.1) hbb HLE.out))
              | (go_at_call 15; (with_reducible refine HSM.out.mono ?_); rintro e wc ⟨rfl, hxc⟩; have HPE := Lib.hid (HPB.out.ext hxc)))
            clear hba hca hla hka hbb hcb hlb hkb hxc HPA HPB HSM HA1 HA2 HK2 HPL HLE d0 d1 d2 d3 HM0 HM1
            have HW1 := Lib.hid (HPE.out.two.wait1 _ rfl); have HW2 := Lib.hid (HPE.out.two.wait2 _ rfl)
            go_wp2_with (first
              | (go_at_call 22; (with_reducible refine HW1.out.mono ?_); rintro e w6 ⟨rfl, hw6⟩; have h9 := hw6.symm; clear hw6; subst h9)
              | (go_at_call 23; (with_reducible refine HW2.out.mono ?_); rintro e w6 ⟨rfl, hw6⟩; have h9 := hw6.symm; clear hw6; subst h9))
            exact ⟨⟨i + 1, T, r', by simp, rfl, by omega, by omega, by omega, by omega, Lib.hid HPE.out.two, Lib.hid HPE.out.bel⟩, by simp [iof]; omega⟩
          · by_cases hk7 : q1.tmod 7 = 0
            · skip
              have HK2 : Hid (∀ V, PL w0 V p1 p2 qa #[.int .i64 q0, .int .i64 q1, .int .i64 q2, .int .i64 q3] (closeF r).2 r → Calls Try.prog 19 #[.pointer (some ⟨p2, 0, none⟩)] V fun e w' => ∃ u, e = .returned u ∧ BatR V.heap.size w' u (closeF r).1 ∧ C2 w0.heap.size w' p1 p2 (closeF r).2 (closeF r).2 ∧ Below w0.heap.size V w' ∧ KC p2 V w') := Lib.hid fun V hV => hV.two.close2
              have HLE := Lib.hid (fun ts (h : (closeF r).1 = some ts) => close_len h HPL.out.two.lt.2.2.2.2.2.1)
              have HA1 := Lib.hid (HPL.out.two.close1)
              generalize (closeF r).1 = ob at *
              generalize (closeF r).2 = r' at *
              go_upto_region 19 with (first
                | (go_at_call 24; (with_reducible refine (HM0.out _).mono ?_); rintro e wx ⟨rfl, rfl⟩)
                | (go_at_call 18; (with_reducible refine HA1.out.mono ?_); rintro e wa ⟨ua, rfl, hba, hca, hla, hka⟩; have HPA := Lib.hid (HPL.out.step1 hca hla (.inl hka)); have HA2 := Lib.hid (HK2.out _ HPA.out))
                | (go_at_call 19; (with_reducible refine HA2.out.mono ?_); rintro e wb ⟨ub, rfl, hbb, hcb, hlb, hkb⟩; have HPB := Lib.hid (HPA.out.step1 hcb hlb (.inr hkb)); have HSM := Lib.hid (same_true ua ub ob wb (hba.kc hkb HPL.out.two.lt.2.2.2.1) hbb HLE.out))
                | (go_at_call 15; (with_reducible refine HSM.out.mono ?_); rintro e wc ⟨rfl, hxc⟩; have HPE := Lib.hid (HPB.out.ext hxc)))
              clear hba hca hla hka hbb hcb hlb hkb hxc HPA HPB HSM HA1 HA2 HK2 HPL HLE d0 d1 d2 d3 HM0 HM1
              have HW1 := Lib.hid (HPE.out.two.wait1 _ rfl); have HW2 := Lib.hid (HPE.out.two.wait2 _ rfl)
              go_wp2_with (first
                | (go_at_call 22; (with_reducible refine HW1.out.mono ?_); rintro e w6 ⟨rfl, hw6⟩; have h9 := hw6.symm; clear hw6; subst h9)
                | (go_at_call 23; (with_reducible refine HW2.out.mono ?_); rintro e w6 ⟨rfl, hw6⟩; have h9 := hw6.symm; clear hw6; subst h9))
              exact ⟨⟨i + 1, T, r', by simp, rfl, by omega, by omega, by omega, by omega, Lib.hid HPE.out.two, Lib.hid HPE.out.bel⟩, by simp [iof]; omega⟩
            · have hk7b : (q1.tmod 7 != 0) = true := by simpa using hk7
              have HK2 : Hid (∀ V, PL w0 V p1 p2 qa #[.int .i64 q0, .int .i64 q1, .int .i64 q2, .int .i64 q3] (tickF r T2).2 r → Calls Try.prog 17 #[.pointer (some ⟨p2, 0, none⟩), .int .i64 T2] V fun e w' => ∃ u, e = .returned u ∧ BatR V.heap.size w' u (tickF r T2).1 ∧ C2 w0.heap.size w' p1 p2 (tickF r T2).2 (tickF r T2).2 ∧ Below w0.heap.size V w' ∧ KC p2 V w') := Lib.hid fun V hV => hV.two.tick2 T2 (okI_small (by omega))
              have HLE := Lib.hid (fun ts (h : (tickF r T2).1 = some ts) => tick_len h HPL.out.two.lt.2.2.2.2.2.1)
              have HA1 := Lib.hid (HPL.out.two.tick1 T2 (okI_small (by omega)))
              generalize (tickF r T2).1 = ob at *
              generalize (tickF r T2).2 = r' at *
              go_upto_region 19 with (first
                | (go_at_call 24; (with_reducible refine (HM0.out _).mono ?_); rintro e wx ⟨rfl, rfl⟩)
                | (go_at_call 16; (with_reducible refine HA1.out.mono ?_); rintro e wa ⟨ua, rfl, hba, hca, hla, hka⟩; have HPA := Lib.hid (HPL.out.step1 hca hla (.inl hka)); have HA2 := Lib.hid (HK2.out _ HPA.out))
                | (go_at_call 17; (with_reducible refine HA2.out.mono ?_); rintro e wb ⟨ub, rfl, hbb, hcb, hlb, hkb⟩; have HPB := Lib.hid (HPA.out.step1 hcb hlb (.inr hkb)); have HSM := Lib.hid (same_true ua ub ob wb (hba.kc hkb HPL.out.two.lt.2.2.2.1) hbb HLE.out))
                | (go_at_call 15; (with_reducible refine HSM.out.mono ?_); rintro e wc ⟨rfl, hxc⟩; have HPE := Lib.hid (HPB.out.ext hxc)))
              clear hba hca hla hka hbb hcb hlb hkb hxc HPA HPB HSM HA1 HA2 HK2 HPL HLE d0 d1 d2 d3 HM0 HM1
              have HW1 := Lib.hid (HPE.out.two.wait1 _ rfl); have HW2 := Lib.hid (HPE.out.two.wait2 _ rfl)
              go_wp2_with (first
                | (go_at_call 22; (with_reducible refine HW1.out.mono ?_); rintro e w6 ⟨rfl, hw6⟩; have h9 := hw6.symm; clear hw6; subst h9)
                | (go_at_call 23; (with_reducible refine HW2.out.mono ?_); rintro e w6 ⟨rfl, hw6⟩; have h9 := hw6.symm; clear hw6; subst h9))
              exact ⟨⟨i + 1, T, r', by simp, rfl, by omega, by omega, by omega, by omega, Lib.hid HPE.out.two, Lib.hid HPE.out.bel⟩, by simp [iof]; omega⟩
      · go_upto_region 10 with (fail)
        by_cases hk6 : kd < 6
        · skip
          have HG1 : Hid (∀ V0 V, PL w0 V0 p1 p2 qa #[.int .i64 q0, .int .i64 q1, .int .i64 q2, .int .i64 q3] r r → Ext V0 V → Calls Try.prog 20 #[.pointer (some ⟨p1, 0, none⟩), .int .i64 m, .int .i64 T, .string (txtF q3)] V fun e w' => e = .returned (.int .i64 (askE r ⟨m, txtF q3⟩ T)) ∧ PL w0 w' p1 p2 qa #[.int .i64 q0, .int .i64 q1, .int .i64 q2, .int .i64 q3] (askR r ⟨m, txtF q3⟩ T) r) := Lib.hid fun V0 V hV0 hx0 => have hV := hV0.ext hx0
            (hV.two.ask1 ⟨m, txtF q3⟩ T (okI_small (by simp only; omega)) (okI_small (by omega))).mono fun _ _ ⟨a, b, c, d⟩ => ⟨a, hV.step1 b c (.inl d)⟩
          have HG2 : Hid (∀ V0 V, PL w0 V0 p1 p2 qa #[.int .i64 q0, .int .i64 q1, .int .i64 q2, .int .i64 q3] (askR r ⟨m, txtF q3⟩ T) r → Ext V0 V → Calls Try.prog 21 #[.pointer (some ⟨p2, 0, none⟩), .int .i64 m, .int .i64 T, .string (txtF q3)] V fun e w' => e = .returned (.int .i64 (askE r ⟨m, txtF q3⟩ T)) ∧ PL w0 w' p1 p2 qa #[.int .i64 q0, .int .i64 q1, .int .i64 q2, .int .i64 q3] (askR r ⟨m, txtF q3⟩ T) (askR r ⟨m, txtF q3⟩ T)) := Lib.hid fun V0 V hV0 hx0 => have hV := hV0.ext hx0
            (hV.two.ask2 ⟨m, txtF q3⟩ T (okI_small (by simp only; omega)) (okI_small (by omega))).mono fun _ _ ⟨a, b, c, d⟩ => ⟨a, hV.step1 b c (.inr d)⟩
          have HTX : Hid (∀ V0 V r1 r2, PL w0 V0 p1 p2 qa #[.int .i64 q0, .int .i64 q1, .int .i64 q2, .int .i64 q3] r1 r2 → Ext V0 V → Calls Try.prog 25 #[.int .i64 q3] V fun e w' => e = .returned (.string (txtF q3)) ∧ PL w0 w' p1 p2 qa #[.int .i64 q0, .int .i64 q1, .int .i64 q2, .int .i64 q3] r1 r2) := Lib.hid fun V0 V r1 r2 hV0 hx0 => have hV := hV0.ext hx0; (text_any q3 V o3).mono fun _ _ ⟨a, b⟩ => ⟨a, hV.ext b⟩
          generalize txtF q3 = tx at *
          generalize askE r ⟨m, tx⟩ T = er at *
          generalize askR r ⟨m, tx⟩ T = r' at *
          have hpl := HPL.out
          go_upto_region 14 with (go_at_call 24; (with_reducible refine (HM0.out _).mono ?_); rintro e wx ⟨rfl, rfl⟩)
          go_region_held3 (fun w' => w'.cell? ⟨qa, 1, none⟩ = some (.int .i64 q1) ∧ w'.cell? ⟨qa, 3, none⟩ = some (.int .i64 q3)) (first | exact kc' | exact ky' | exact kb' | exact kx' | exact ⟨d1, d3⟩ | go_keep)
            (first
              | (go_at_call 24; (with_reducible refine (HM1.out _).mono ?_); rintro e wx ⟨rfl, rfl⟩)
              | (go_at_call 25; refine (HTX.out _ _ r' r (by with_reducible assumption) (by with_reducible repeat (first | exact Ext.refl _ | assumption | apply Ext.drewN | apply Ext.drew | apply Ext.alloc | (refine Ext.setCell ?_ (by simp <;> omega) _) | (refine Ext.trans ?_ (by assumption))))).mono ?_; rintro e wx ⟨rfl, hpy⟩; have ky' := PL.c2 hpy)
              | (go_at_call 25; refine (HTX.out _ _ r r (by with_reducible assumption) (by with_reducible repeat (first | exact Ext.refl _ | assumption | apply Ext.drewN | apply Ext.drew | apply Ext.alloc | (refine Ext.setCell ?_ (by simp <;> omega) _) | (refine Ext.trans ?_ (by assumption))))).mono ?_; rintro e wx ⟨rfl, hpx⟩; have kx' := PL.c2 hpx)
              | (go_at_call 20; refine (HG1.out _ _ (by with_reducible assumption) (by with_reducible repeat (first | exact Ext.refl _ | assumption | apply Ext.drewN | apply Ext.drew | apply Ext.alloc | (refine Ext.setCell ?_ (by simp <;> omega) _) | (refine Ext.trans ?_ (by assumption))))).mono ?_; rintro e wb ⟨rfl, hpb⟩; have kb' := PL.c2 hpb)
              | (go_at_call 21; refine (HG2.out _ _ (by with_reducible assumption) (by with_reducible repeat (first | exact Ext.refl _ | assumption | apply Ext.drewN | apply Ext.drew | apply Ext.alloc | (refine Ext.setCell ?_ (by simp <;> omega) _) | (refine Ext.trans ?_ (by assumption))))).mono ?_; rintro e wc ⟨rfl, hpc⟩; have kc' := PL.c2 hpc))
          have HPE := Lib.hid hpc
          clear hpb hpc hpx hpy hpl kx' ky' kb' kc' d0 d1 d2 d3 HG1 HG2 HTX HM0 HM1 HPL
          have HW1 := Lib.hid (HPE.out.two.wait1 _ rfl); have HW2 := Lib.hid (HPE.out.two.wait2 _ rfl)
          go_wp2_with (first
            | (go_at_call 22; (with_reducible refine HW1.out.mono ?_); rintro e w6 ⟨rfl, hw6⟩; have h9 := hw6.symm; clear hw6; subst h9)
            | (go_at_call 23; (with_reducible refine HW2.out.mono ?_); rintro e w6 ⟨rfl, hw6⟩; have h9 := hw6.symm; clear hw6; subst h9))
          exact ⟨⟨i + 1, T, r', by simp, rfl, by omega, by omega, by omega, by omega, Lib.hid HPE.out.two, Lib.hid HPE.out.bel⟩, by simp [iof]; omega⟩
        · by_cases hk8 : kd < 8
          · skip
            have HK2 : Hid (∀ V, PL w0 V p1 p2 qa #[.int .i64 q0, .int .i64 q1, .int .i64 q2, .int .i64 q3] (tickF r T).2 r → Calls Try.prog 17 #[.pointer (some ⟨p2, 0, none⟩), .int .i64 T] V fun e w' => ∃ u, e = .returned u ∧ BatR V.heap.size w' u (tickF r T).1 ∧ C2 w0.heap.size w' p1 p2 (tickF r T).2 (tickF r T).2 ∧ Below w0.heap.size V w' ∧ KC p2 V w') := Lib.hid fun V hV => hV.two.tick2 T (okI_small (by omega))
            have HLE := Lib.hid (fun ts (h : (tickF r T).1 = some ts) => tick_len h HPL.out.two.lt.2.2.2.2.2.1)
            have HA1 := Lib.hid (HPL.out.two.tick1 T (okI_small (by omega)))
            generalize (tickF r T).1 = ob at *
            generalize (tickF r T).2 = r' at *
            go_upto_region 19 with (first
              | (go_at_call 24; (with_reducible refine (HM0.out _).mono ?_); rintro e wx ⟨rfl, rfl⟩)
              | (go_at_call 16; (with_reducible refine HA1.out.mono ?_); rintro e wa ⟨ua, rfl, hba, hca, hla, hka⟩; have HPA := Lib.hid (HPL.out.step1 hca hla (.inl hka)); have HA2 := Lib.hid (HK2.out _ HPA.out))
              | (go_at_call 17; (with_reducible refine HA2.out.mono ?_); rintro e wb ⟨ub, rfl, hbb, hcb, hlb, hkb⟩; have HPB := Lib.hid (HPA.out.step1 hcb hlb (.inr hkb)); have HSM := Lib.hid (same_true ua ub ob wb (hba.kc hkb HPL.out.two.lt.2.2.2.1) hbb HLE.out))
              | (go_at_call 15; (with_reducible refine HSM.out.mono ?_); rintro e wc ⟨rfl, hxc⟩; have HPE := Lib.hid (HPB.out.ext hxc)))
            clear hba hca hla hka hbb hcb hlb hkb hxc HPA HPB HSM HA1 HA2 HK2 HPL HLE d0 d1 d2 d3 HM0 HM1
            have HW1 := Lib.hid (HPE.out.two.wait1 _ rfl); have HW2 := Lib.hid (HPE.out.two.wait2 _ rfl)
            go_wp2_with (first
              | (go_at_call 22; (with_reducible refine HW1.out.mono ?_); rintro e w6 ⟨rfl, hw6⟩; have h9 := hw6.symm; clear hw6; subst h9)
              | (go_at_call 23; (with_reducible refine HW2.out.mono ?_); rintro e w6 ⟨rfl, hw6⟩; have h9 := hw6.symm; clear hw6; subst h9))
            exact ⟨⟨i + 1, T, r', by simp, rfl, by omega, by omega, by omega, by omega, Lib.hid HPE.out.two, Lib.hid HPE.out.bel⟩, by simp [iof]; omega⟩
          · by_cases hk7 : q1.tmod 7 = 0
            · skip
              have HK2 : Hid (∀ V, PL w0 V p1 p2 qa #[.int .i64 q0, .int .i64 q1, .int .i64 q2, .int .i64 q3] (closeF r).2 r → Calls Try.prog 19 #[.pointer (some ⟨p2, 0, none⟩)] V fun e w' => ∃ u, e = .returned u ∧ BatR V.heap.size w' u (closeF r).1 ∧ C2 w0.heap.size w' p1 p2 (closeF r).2 (closeF r).2 ∧ Below w0.heap.size V w' ∧ KC p2 V w') := Lib.hid fun V hV => hV.two.close2
              have HLE := Lib.hid (fun ts (h : (closeF r).1 = some ts) => close_len h HPL.out.two.lt.2.2.2.2.2.1)
              have HA1 := Lib.hid (HPL.out.two.close1)
              generalize (closeF r).1 = ob at *
              generalize (closeF r).2 = r' at *
              go_upto_region 19 with (first
                | (go_at_call 24; (with_reducible refine (HM0.out _).mono ?_); rintro e wx ⟨rfl, rfl⟩)
                | (go_at_call 18; (with_reducible refine HA1.out.mono ?_); rintro e wa ⟨ua, rfl, hba, hca, hla, hka⟩; have HPA := Lib.hid (HPL.out.step1 hca hla (.inl hka)); have HA2 := Lib.hid (HK2.out _ HPA.out))
                | (go_at_call 19; (with_reducible refine HA2.out.mono ?_); rintro e wb ⟨ub, rfl, hbb, hcb, hlb, hkb⟩; have HPB := Lib.hid (HPA.out.step1 hcb hlb (.inr hkb)); have HSM := Lib.hid (same_true ua ub ob wb (hba.kc hkb HPL.out.two.lt.2.2.2.1) hbb HLE.out))
                | (go_at_call 15; (with_reducible refine HSM.out.mono ?_); rintro e wc ⟨rfl, hxc⟩; have HPE := Lib.hid (HPB.out.ext hxc)))
              clear hba hca hla hka hbb hcb hlb hkb hxc HPA HPB HSM HA1 HA2 HK2 HPL HLE d0 d1 d2 d3 HM0 HM1
              have HW1 := Lib.hid (HPE.out.two.wait1 _ rfl); have HW2 := Lib.hid (HPE.out.two.wait2 _ rfl)
              go_wp2_with (first
                | (go_at_call 22; (with_reducible refine HW1.out.mono ?_); rintro e w6 ⟨rfl, hw6⟩; have h9 := hw6.symm; clear hw6; subst h9)
                | (go_at_call 23; (with_reducible refine HW2.out.mono ?_); rintro e w6 ⟨rfl, hw6⟩; have h9 := hw6.symm; clear hw6; subst h9))
              exact ⟨⟨i + 1, T, r', by simp, rfl, by omega, by omega, by omega, by omega, Lib.hid HPE.out.two, Lib.hid HPE.out.bel⟩, by simp [iof]; omega⟩
            · have hk7b : (q1.tmod 7 != 0) = true := by simpa using hk7
              have HK2 : Hid (∀ V, PL w0 V p1 p2 qa #[.int .i64 q0, .int .i64 q1, .int .i64 q2, .int .i64 q3] (tickF r T).2 r → Calls Try.prog 17 #[.pointer (some ⟨p2, 0, none⟩), .int .i64 T] V fun e w' => ∃ u, e = .returned u ∧ BatR V.heap.size w' u (tickF r T).1 ∧ C2 w0.heap.size w' p1 p2 (tickF r T).2 (tickF r T).2 ∧ Below w0.heap.size V w' ∧ KC p2 V w') := Lib.hid fun V hV => hV.two.tick2 T (okI_small (by omega))
              have HLE := Lib.hid (fun ts (h : (tickF r T).1 = some ts) => tick_len h HPL.out.two.lt.2.2.2.2.2.1)
              have HA1 := Lib.hid (HPL.out.two.tick1 T (okI_small (by omega)))
              generalize (tickF r T).1 = ob at *
              generalize (tickF r T).2 = r' at *
              go_upto_region 19 with (first
                | (go_at_call 24; (with_reducible refine (HM0.out _).mono ?_); rintro e wx ⟨rfl, rfl⟩)
                | (go_at_call 16; (with_reducible refine HA1.out.mono ?_); rintro e wa ⟨ua, rfl, hba, hca, hla, hka⟩; have HPA := Lib.hid (HPL.out.step1 hca hla (.inl hka)); have HA2 := Lib.hid (HK2.out _ HPA.out))
                | (go_at_call 17; (with_reducible refine HA2.out.mono ?_); rintro e wb ⟨ub, rfl, hbb, hcb, hlb, hkb⟩; have HPB := Lib.hid (HPA.out.step1 hcb hlb (.inr hkb)); have HSM := Lib.hid (same_true ua ub ob wb (hba.kc hkb HPL.out.two.lt.2.2.2.1) hbb HLE.out))
                | (go_at_call 15; (with_reducible refine HSM.out.mono ?_); rintro e wc ⟨rfl, hxc⟩; have HPE := Lib.hid (HPB.out.ext hxc)))
              clear hba hca hla hka hbb hcb hlb hkb hxc HPA HPB HSM HA1 HA2 HK2 HPL HLE d0 d1 d2 d3 HM0 HM1
              have HW1 := Lib.hid (HPE.out.two.wait1 _ rfl); have HW2 := Lib.hid (HPE.out.two.wait2 _ rfl)
              go_wp2_with (first
                | (go_at_call 22; (with_reducible refine HW1.out.mono ?_); rintro e w6 ⟨rfl, hw6⟩; have h9 := hw6.symm; clear hw6; subst h9)
                | (go_at_call 23; (with_reducible refine HW2.out.mono ?_); rintro e w6 ⟨rfl, hw6⟩; have h9 := hw6.symm; clear hw6; subst h9))
              exact ⟨⟨i + 1, T, r', by simp, rfl, by omega, by omega, by omega, by omega, Lib.hid HPE.out.two, Lib.hid HPE.out.bel⟩, by simp [iof]; omega⟩
    · have HRR := HR
      have hcnd : i < 30 → ¬ i < ls.length := fun h1 h2 => hi2 ⟨h2, h1⟩
      by_cases hi4 : i < 30
      · have hi5 : ¬ (i : Int) < (ls.length : Int) := by have := hcnd hi4; omega
        clear hcnd hi2
        go_wp2_with (fail)
        go_ret2
        exact ⟨t, rfl, t0, by omega, ⟨r, HRR.out⟩, HX.out⟩
      · have hi5 : ¬ (i : Int) < 30 := by omega
        have hi30 : i = 30 := by omega
        subst hi30
        clear hcnd hi2
        by_cases hi6 : (30 : Int) < (ls.length : Int)
        · skip
          go_wp2_with (fail)
          go_ret2
          exact ⟨t, rfl, t0, by omega, ⟨r, HRR.out⟩, HX.out⟩
        · skip
          go_wp2_with (fail)
          go_ret2
          exact ⟨t, rfl, t0, by omega, ⟨r, HRR.out⟩, HX.out⟩
end Go.Proofs.Ytbeoihjfjkbfhaa
