/-
  CheckDuties of the reference walked. Conditions: a setup, the bidders and the duties lie in memory.
-/
import Derived.Test.YtlekdhhgjhakgaaAsP
import Derived.Test.YtlekdhhgjhakgaaJnE
import Derived.Test.YtlekdhhgjhakgaaIyF
import Derived.Deep.RegionHeld3
namespace Go.Proofs.Ytlekdhhgjhakgaa
set_option linter.unusedVariables false
set_option linter.unusedSimpArgs false
open Go.RowKit
theorem count_at {l : List (Int × Int)} {i : Nat} (hi : i < l.length) : l.count l[i] = (l.take i).count l[i] + 1 + (l.drop (i + 1)).count l[i] := by
  have h1 : l = l.take i ++ (l[i] :: l.drop (i + 1)) := by rw [← List.drop_eq_getElem_cons hi, List.take_append_drop]
  have h2 := congrArg (List.count l[i]) h1
  rw [List.count_append, List.count_cons_self] at h2
  omega
theorem count_one {l : List (Int × Int)} {i : Nat} (hi : i < l.length) (h : ∀ j (hj : j < l.length), l[j] = l[i] → j = i) : l.count l[i] = 1 := by
  rw [count_at hi, List.count_eq_zero.2 fun hm => ?_, List.count_eq_zero.2 fun hm => ?_]
  · obtain ⟨j, hj, e⟩ := List.mem_drop_iff_getElem.1 hm
    have := h (i + 1 + j) (by omega) e
    omega
  · obtain ⟨j, hj, e⟩ := List.mem_take_iff_getElem.1 hm
    have := h j (by omega) e
    omega
theorem count_two {l : List (Int × Int)} {i : Nat} (hi : i < l.length) (j : Nat) (hj : j < l.length) (hne : j ≠ i) (e : l[j] = l[i]) : l.count l[i] ≠ 1 := by
  rw [count_at hi]
  rcases Nat.lt_or_ge j i with h | h
  · have : 0 < (l.take i).count l[i] := List.count_pos_iff.2 (List.mem_take_iff_getElem.2 ⟨j, by omega, e⟩)
    omega
  · have : 0 < (l.drop (i + 1)).count l[i] := List.count_pos_iff.2 (List.mem_drop_iff_getElem.2 ⟨j - (i + 1), by omega, by
      have h2 : i + 1 + (j - (i + 1)) = j := by omega
      simp only [h2]
      exact e⟩)
    omega
theorem count_take2 (l : List (Int × Int)) (a : Int) (j : Nat) (h : j < l.length) : ((l.take (j + 1)).map (·.2)).count a = ((l.take j).map (·.2)).count a + if l[j].2 = a then 1 else 0 := by
  rw [List.take_succ_eq_append_getElem h, List.map_append, List.count_append]
  congr 1
  by_cases e : l[j].2 = a
  · rw [if_pos e, ← e]; simp
  · rw [if_neg e]
    exact List.count_eq_zero.2 (by simpa using fun e2 => e e2.symm)
set_option maxRecDepth 100000 in
set_option maxHeartbeats 8000000 in
theorem rcheck_any (c0 c1 c2 c3 c4 c5 dv : Value) (A : Option Addr) (cap : Nat) (s : Su) (bs : List Int) (each : Int) (l : List (Int × Int)) (w : World) (h : SuV w c0 c1 c2 c3 c4 c5 s) (hbs : IRd w (.slice A bs.length cap) bs) (hcap : bs.length ≤ cap) (hl : SR reC 2 w dv l) (hok : ∀ d ∈ l, OkD d) (hln : l.length ≤ 1000) :
    Calls Try.prog 25 #[.agg #[c0, c1, c2, c3, c4, c5], .slice A bs.length cap, .int .i64 each, dv] w fun e w' => e = .returned (.bool (chkF s bs each (ldF s bs each) l)) ∧ Ext w w' := by
  have hS := h
  have hal := asr_le s h.ok
  have haok := asr_ok h.ok
  obtain ⟨hps, hhs, hrs, ⟨q1, rfl⟩, ⟨q4, rfl⟩, ⟨q5, rfl⟩, -⟩ := h
  obtain ⟨b0, n0, rfl⟩ := hps.form
  obtain ⟨b2, n2, rfl⟩ := hhs.form
  obtain ⟨b3, n3, rfl⟩ := hrs.form
  obtain ⟨dA, dn, rfl⟩ := hl.form
  have HBS := Lib.hid hbs; have HLS := Lib.hid hl; have HOK := Lib.hid hok; have HAOK := Lib.hid haok
  have HCK := Lib.hid (chk_same s bs each (ldF s bs each) l)
  clear hps hhs hrs hbs hl hok haok
  go_enter Try.func25, Try.ntmps25
  go_upto_region 1 with (fail)
  obtain ⟨v0, hv0⟩ : ∃ v0, v0 = Value.slice b0 s.ps.length n0 := ⟨_, rfl⟩
  obtain ⟨v2, hv2⟩ : ∃ v2, v2 = Value.slice b2 s.hs.length n2 := ⟨_, rfl⟩
  obtain ⟨v3, hv3⟩ : ∃ v3, v3 = Value.slice b3 s.rs.length n3 := ⟨_, rfl⟩
  rw [← hv0, ← hv2, ← hv3] at hS ⊢
  have hx1 : Ext w (w.alloc (.cells #[v0, .int .i64 q1, v2, v3, .int .i64 q4, .int .i64 q5] 28)) := Ext.alloc (Ext.refl _) _
  have hb1 := alloc_at w (.cells #[v0, .int .i64 q1, v2, v3, .int .i64 q4, .int .i64 q5] 28)
  obtain ⟨D, hD⟩ : ∃ D, D = w.heap.size := ⟨_, rfl⟩
  rw [← hD] at hb1 ⊢
  clear hD
  generalize w.alloc (.cells #[v0, .int .i64 q1, v2, v3, .int .i64 q4, .int .i64 q5] 28) = W1 at *
  have HS := Lib.hid (hS.ext hx1)
  have HB := Lib.hid hb1; have HX1 := Lib.hid hx1
  have HC : Hid (∀ wz, Ext W1 wz → wz.cell? ⟨D, 0, none⟩ = some v0 ∧ wz.cell? ⟨D, 1, none⟩ = some (.int .i64 q1) ∧ wz.cell? ⟨D, 2, none⟩ = some v2 ∧ wz.cell? ⟨D, 3, none⟩ = some v3 ∧ wz.cell? ⟨D, 4, none⟩ = some (.int .i64 q4) ∧ wz.cell? ⟨D, 5, none⟩ = some (.int .i64 q5)) := Lib.hid fun wz hz => by
    have h1 := (hz.block _ (Rg.lt_of_heap HB.out)).trans HB.out
    exact ⟨cell_of_row wz D 0 _ _ _ h1, cell_of_row wz D 1 _ _ _ h1, cell_of_row wz D 2 _ _ _ h1, cell_of_row wz D 3 _ _ _ h1, cell_of_row wz D 4 _ _ _ h1, cell_of_row wz D 5 _ _ _ h1⟩
  have HR := Lib.hid (rLeast_any _ _ _ _ _ _ A cap s bs each W1 HS.out (HBS.out.ext hx1) hcap)
  clear hb1 hx1 hS hv0 hv2 hv3 HB
  obtain ⟨g0, g1, g2, g3, g4, g5⟩ := HC.out W1 (Ext.refl _)
  obtain ⟨er, her⟩ : ∃ er, er = openE s bs each := ⟨_, rfl⟩
  have HER := Lib.hid her
  rw [← her] at HR HCK
  clear her
  go_upto_region 2 with (first | (go_at_call 39; (with_reducible refine HR.out.mono ?_); rintro e w2 ⟨L, rfl, hx2, hL1, hL2⟩))
  have HX2 := Lib.hid hx2; have HL1 := Lib.hid hL1
  clear hx2 hL1 hL2 g0 g1 g2 g3 g4 g5 HR
  obtain ⟨g0, g1, g2, g3, g4, g5⟩ := HC.out w2 HX2.out
  by_cases hz : er = 0
  · have hop : openE s bs each = 0 := by rw [← HER.out]; exact hz
    subst hz
    have hrf := right_facts (open_right hop)
    obtain ⟨en, rfl⟩ := Int.eq_ofNat_of_zero_le (Int.le_of_lt hrf.2.2.2.1)
    obtain ⟨hL, hL1000⟩ := HL1.out rfl
    have hld := (ldF_least hop).uniq hL
    have HLD := Lib.hid hld
    rw [hld] at HCK
    have hbn : bs.length ≤ 40 := hrf.2.1
    have he13 : en ≤ 13 := by have := hrf.2.2.2.2; omega
    have hmul : en * bs.length ≤ 13 * 40 := Nat.mul_le_mul he13 hbn
    obtain ⟨q, hq⟩ : ∃ q, q = en * bs.length := ⟨_, rfl⟩
    have hqi : (en : Int) * (bs.length : Int) = (q : Int) := by rw [hq]; push_cast; rfl
    rw [← hq] at hmul
    rw [hqi] at HCK
    clear hq hL hrf HL1 HER hop hld
    by_cases hlq : l.length = q
    · have HQ : Hid (chkF s bs en L l = l.all (refOne s bs en L l)) := Lib.hid (by rw [HCK.out, decide_eq_true (show (l.length : Int) = (q : Int) by omega)]; rfl)
      have hlz : ((l.length : Int) != (q : Int)) = false := by simp [hlq]
      have HLQ := Lib.hid hlq
      have HAS := Lib.hid (Assessors_any _ _ _ _ _ _ s w2 (HS.out.ext HX2.out))
      clear hlq HCK
      go_upto_region 6 with (first | (go_at_call 41; (with_reducible refine HAS.out.mono ?_); rintro e' wb ⟨av, rfl, hxb, hra⟩; obtain ⟨aA, ac, rfl⟩ := row_formG hra))
      have HXB := Lib.hid (HX2.out.trans hxb)
      have HIA := Lib.hid (ird_row hra HAOK.out (by omega))
      clear hra hxb g0 g1 g2 g3 g4 g5 HAS hlz
      go_loopw [12] (fun iv wr => ∃ i : Nat, iv = .int .i64 i ∧ i ≤ l.length ∧ Hid ((l.take i).all (refOne s bs en L l) = true) ∧ Hid (Ext wb wr)) (fun iv _ => l.length - (iof iv).toNat)
      case atStart => exact ⟨0, rfl, by omega, Lib.hid rfl, Lib.hid (Ext.refl _)⟩
      case round =>
        rename World => wo
        obtain ⟨i, rfl, hi, HAL, HX⟩ := hrel
        by_cases hil : i < l.length
        · obtain ⟨g, rfl, hgl, d0, d1⟩ := re_at (HLS.out.ext HX1.out) i hil
          have o := HOK.out l[i] (List.getElem_mem _)
          have HTK : Hid (l.take (i + 1) = l.take i ++ [l[i]]) := Lib.hid (List.take_succ_eq_append_getElem hil)
          have HIN : Hid (l[i] ∈ l) := Lib.hid (List.getElem_mem hil)
          have HONE := Lib.hid (count_one hil); have HTWO := Lib.hid (count_two hil)
          have HGL : Hid (g < W1.heap.size) := Lib.hid hgl
          have HGC : Hid (∀ wz, Ext W1 wz → wz.cell? ⟨g, i * 2, none⟩ = some (.int .i64 l[i].1) ∧ wz.cell? ⟨g, i * 2 + 1, none⟩ = some (.int .i64 l[i].2) ∧ g < wz.heap.size) := Lib.hid fun wz hz => ⟨(hz.cells.1 _ _ hgl).trans d0, (hz.cells.1 _ _ hgl).trans d1, Nat.lt_of_lt_of_le hgl hz.size⟩
          clear d0 d1 hgl
          generalize l[i] = r at *
          obtain ⟨ra, rb⟩ := r
          obtain ⟨oa, ob⟩ := o
          simp only at HGC oa ob
          have HREF : Hid (refOne s bs en L l (ra, rb) = (decide (l.count (ra, rb) = 1) && decide ((l.map (·.1)).count ra ≤ L) && decide (((l.map (·.2)).count rb : Int) = en) && (decide (rb ∈ bs) && decide (ra ∈ asrF s.ps) && !confF s ra rb))) := Lib.hid rfl
          have HCF := Lib.hid (fun wz (hz : Ext W1 wz) => refConflict_any _ _ _ _ _ _ s ra rb wz (HS.out.ext hz) oa)
          clear oa ob
          go_upto_region 11 with (fail)
          try rw [show decide ((i : Int) < (l.length : Int)) = true from decide_eq_true (by omega)]
          go_loopw [13, 14, 15] (fun nv mv kv wq => ∃ k : Nat, kv = .int .i64 k ∧ k ≤ l.length ∧ nv = .int .i64 (((l.take k).map (·.1)).count ra : Nat) ∧ mv = .int .i64 (((l.take k).map (·.2)).count rb : Nat) ∧ Hid (∀ j (hj : j < l.length), j < k → l[j] = (ra, rb) → j = i) ∧ Hid (Ext wb wq)) (fun _ _ kv _ => l.length - (iof kv).toNat)
          case atStart => exact ⟨0, rfl, by omega, by simp, by simp, Lib.hid (fun j _ h => absurd h (Nat.not_lt_zero _)), HX⟩
          case round =>
            obtain ⟨k, rfl, hk, rfl, rfl, HNO, HXQ⟩ := hrel
            clear HX
            by_cases hkl : k < l.length
            · obtain ⟨g', hg', hgl', d2, d3⟩ := re_at (HLS.out.ext (HX1.out.trans (HXB.out.trans HXQ.out))) k hkl
              have hgg : g' = g := by injection hg' with hg'; injection hg' with hg'; exact hg'.symm
              subst hgg
              obtain ⟨d0, d1, -⟩ := HGC.out wr (HXB.out.trans HXQ.out)
              have HCT := Lib.hid (count_take l ra k hkl); have HCT2 := Lib.hid (count_take2 l rb k hkl)
              have HTW := Lib.hid (HTWO.out k hkl)
              have HNO1 : Hid ((l[k] = (ra, rb) → k = i) → ∀ j (hj : j < l.length), j < k + 1 → l[j] = (ra, rb) → j = i) := Lib.hid fun h j hj hjk e => by
                by_cases e2 : j = k
                · subst e2; exact h e
                · exact HNO.out j hj (by omega) e
              generalize l[k] = y at *
              have hc1 : ((l.take k).map (·.1)).count ra ≤ 1000000 := Nat.le_trans List.count_le_length (by rw [List.length_map, List.length_take]; omega)
              have hc2 : ((l.take k).map (·.2)).count rb ≤ 1000000 := Nat.le_trans List.count_le_length (by rw [List.length_map, List.length_take]; omega)
              generalize ((l.take k).map (·.1)).count ra = cn at *
              generalize ((l.take k).map (·.2)).count rb = cm at *
              obtain ⟨ya, yb⟩ := y
              simp only at d2 d3 HCT HCT2
              clear hg'
              have hq := eql56 ya yb ra rb
              by_cases ha : ya = ra
              · have haq : (ya == ra) = true := by simpa using ha
                by_cases hb : yb = rb
                · have hbq : (yb == rb) = true := by simpa using hb
                  have he : (ya == ra && yb == rb) = true := by rw [haq, hbq]; rfl
                  rw [he] at hq
                  have HA := Lib.hid ha; have HB2 := Lib.hid hb
                  clear ha hb
                  by_cases hki : k = i
                  · have hkq : ((k : Int) != (i : Int)) = false := by simp [hki]
                    have HKI := Lib.hid hki
                    clear hki
                    go_upto_region 13 with (fail)
                    go_quiet (fail)
                    go_upto_region 15 with (fail)
                    go_quiet (fail)
                    go_upto_region 17 with (fail)
                    go_quiet (fail)
                    go_wp2_with (fail)
                    go_roundw
                    case rel => exact ⟨k + 1, by simp, by omega, by rw [HCT.out, if_pos HA.out]; rfl, by rw [HCT2.out, if_pos HB2.out]; rfl, Lib.hid (HNO1.out (fun _ => HKI.out)), Lib.hid (HXQ.out.trans (by with_reducible repeat (first | exact Ext.refl _ | assumption | apply Ext.drewN | apply Ext.drew | apply Ext.alloc | (refine Ext.setCell ?_ (by simp <;> omega) _) | (refine Ext.trans ?_ (by assumption)))))⟩
                    case measure => simp [iof]; omega
                  · have hkq : ((k : Int) != (i : Int)) = true := by simp; omega
                    have HBAD : Hid (refOne s bs en L l (ra, rb) = false) := Lib.hid (by rw [HREF.out, decide_eq_false (HTW.out hki (by rw [HA.out, HB2.out]))]; rfl)
                    clear hki
                    go_upto_region 13 with (fail)
                    go_quiet (fail)
                    go_wp2_with (fail)
                    go_ret
                    exact ⟨by rw [HLD.out, HQ.out, List.all_eq_false.2 ⟨_, HIN.out, by rw [HBAD.out]; decide⟩]; rfl, HX1.out.trans (HXB.out.trans (HXQ.out.trans (by with_reducible repeat (first | exact Ext.refl _ | assumption | apply Ext.drewN | apply Ext.drew | apply Ext.alloc | (refine Ext.setCell ?_ (by simp <;> omega) _) | (refine Ext.trans ?_ (by assumption))))))⟩
                · have hbq : (yb == rb) = false := by simpa using hb
                  have he : (ya == ra && yb == rb) = false := by rw [haq, hbq]; rfl
                  rw [he] at hq
                  have HA := Lib.hid ha; have HB2 := Lib.hid hb
                  clear ha hb
                  go_upto_region 13 with (fail)
                  go_quiet (fail)
                  go_upto_region 15 with (fail)
                  go_quiet (fail)
                  go_upto_region 17 with (fail)
                  go_quiet (fail)
                  go_wp2_with (fail)
                  go_roundw
                  case rel => exact ⟨k + 1, by simp, by omega, by rw [HCT.out, if_pos HA.out]; rfl, by rw [HCT2.out, if_neg HB2.out]; rfl, Lib.hid (HNO1.out (fun e => absurd (congrArg Prod.snd e) HB2.out)), Lib.hid (HXQ.out.trans (by with_reducible repeat (first | exact Ext.refl _ | assumption | apply Ext.drewN | apply Ext.drew | apply Ext.alloc | (refine Ext.setCell ?_ (by simp <;> omega) _) | (refine Ext.trans ?_ (by assumption)))))⟩
                  case measure => simp [iof]; omega
              · have haq : (ya == ra) = false := by simpa using ha
                have he : (ya == ra && yb == rb) = false := by rw [haq]; rfl
                rw [he] at hq
                have HA := Lib.hid ha
                clear ha
                by_cases hb : yb = rb
                · have hbq : (yb == rb) = true := by simpa using hb
                  have HB2 := Lib.hid hb
                  clear hb
                  go_upto_region 13 with (fail)
                  go_quiet (fail)
                  go_upto_region 15 with (fail)
                  go_quiet (fail)
                  go_upto_region 17 with (fail)
                  go_quiet (fail)
                  go_wp2_with (fail)
                  go_roundw
                  case rel => exact ⟨k + 1, by simp, by omega, by rw [HCT.out, if_neg HA.out]; rfl, by rw [HCT2.out, if_pos HB2.out]; rfl, Lib.hid (HNO1.out (fun e => absurd (congrArg Prod.fst e) HA.out)), Lib.hid (HXQ.out.trans (by with_reducible repeat (first | exact Ext.refl _ | assumption | apply Ext.drewN | apply Ext.drew | apply Ext.alloc | (refine Ext.setCell ?_ (by simp <;> omega) _) | (refine Ext.trans ?_ (by assumption)))))⟩
                  case measure => simp [iof]; omega
                · have hbq : (yb == rb) = false := by simpa using hb
                  have HB2 := Lib.hid hb
                  clear hb
                  go_upto_region 13 with (fail)
                  go_quiet (fail)
                  go_upto_region 15 with (fail)
                  go_quiet (fail)
                  go_upto_region 17 with (fail)
                  go_quiet (fail)
                  go_wp2_with (fail)
                  go_roundw
                  case rel => exact ⟨k + 1, by simp, by omega, by rw [HCT.out, if_neg HA.out]; rfl, by rw [HCT2.out, if_neg HB2.out]; rfl, Lib.hid (HNO1.out (fun e => absurd (congrArg Prod.fst e) HA.out)), Lib.hid (HXQ.out.trans (by with_reducible repeat (first | exact Ext.refl _ | assumption | apply Ext.drewN | apply Ext.drew | apply Ext.alloc | (refine Ext.setCell ?_ (by simp <;> omega) _) | (refine Ext.trans ?_ (by assumption)))))⟩
                  case measure => simp [iof]; omega
            · obtain rfl : k = l.length := by omega
              have HC1 : Hid (l.count (ra, rb) = 1) := Lib.hid (HONE.out fun j hj e => HNO.out j hj hj e)
              rw [HC1.out, decide_eq_true rfl, Bool.true_and] at HREF
              rw [List.take_length]
              have hc1 : (l.map (·.1)).count ra ≤ 1000000 := Nat.le_trans List.count_le_length (by rw [List.length_map]; omega)
              have hc2 : (l.map (·.2)).count rb ≤ 1000000 := Nat.le_trans List.count_le_length (by rw [List.length_map]; omega)
              generalize (l.map (·.1)).count ra = cn at *
              generalize (l.map (·.2)).count rb = cm at *
              have HXW : Hid (Ext W1 wr) := Lib.hid (HXB.out.trans HXQ.out)
              have HEX : Hid (∀ wz, Ext wr wz → Ext W1 wz) := Lib.hid fun wz hz => HXW.out.trans hz
              have HSS : Hid (∀ wz, Ext W1 wz → wz.cell? ⟨D, 0, none⟩ = some v0 ∧ wz.cell? ⟨D, 1, none⟩ = some (.int .i64 q1) ∧ wz.cell? ⟨D, 2, none⟩ = some v2 ∧ wz.cell? ⟨D, 3, none⟩ = some v3 ∧ wz.cell? ⟨D, 4, none⟩ = some (.int .i64 q4) ∧ wz.cell? ⟨D, 5, none⟩ = some (.int .i64 q5) ∧ wz.cell? ⟨g, i * 2, none⟩ = some (.int .i64 ra) ∧ wz.cell? ⟨g, i * 2 + 1, none⟩ = some (.int .i64 rb)) := Lib.hid fun wz hz => by
                obtain ⟨a0, a1, a2, a3, a4, a5⟩ := HC.out wz hz
                obtain ⟨a6, a7, -⟩ := HGC.out wz hz
                exact ⟨a0, a1, a2, a3, a4, a5, a6, a7⟩
              have HK1 : Hid (∀ wz, Ext W1 wz → Calls Try.prog 31 #[.slice A bs.length cap, .int .i64 rb] wz fun e w' => e = .returned (.bool (decide (rb ∈ bs))) ∧ Ext wz w') := Lib.hid fun wz hz => contains_any _ bs rb wz (HBS.out.ext (HX1.out.trans hz)) (by omega)
              have HK2 : Hid (∀ wz, Ext wb wz → Calls Try.prog 31 #[.slice aA (asrF s.ps).length ac, .int .i64 ra] wz fun e w' => e = .returned (.bool (decide (ra ∈ asrF s.ps))) ∧ Ext wz w') := Lib.hid fun wz hz => contains_any _ (asrF s.ps) ra wz (HIA.out.ext hz) (by omega)
              generalize decide (rb ∈ bs) = kb at *
              generalize decide (ra ∈ asrF s.ps) = ka at *
              generalize confF s ra rb = cf at *
              obtain ⟨s0, s1, s2, s3, s4, s5, s6, s7⟩ := HSS.out wr HXW.out
              go_upto_region 19 with (fail)
              go_region_held3 (fun w' => w'.cell? ⟨D, 0, none⟩ = some v0 ∧ w'.cell? ⟨D, 1, none⟩ = some (.int .i64 q1) ∧ w'.cell? ⟨D, 2, none⟩ = some v2 ∧ w'.cell? ⟨D, 3, none⟩ = some v3 ∧ w'.cell? ⟨D, 4, none⟩ = some (.int .i64 q4) ∧ w'.cell? ⟨D, 5, none⟩ = some (.int .i64 q5) ∧ w'.cell? ⟨g, i * 2, none⟩ = some (.int .i64 ra) ∧ w'.cell? ⟨g, i * 2 + 1, none⟩ = some (.int .i64 rb))
                (first | exact HSS.out _ (HEX.out _ (by with_reducible repeat (first | exact Ext.refl _ | assumption | apply Ext.drewN | apply Ext.drew | apply Ext.alloc | (refine Ext.setCell ?_ (by simp <;> omega) _) | (refine Ext.trans ?_ (by assumption))))) | go_keep)
                (first
                  | (go_at_call 16; (with_reducible refine (HCF.out _ (HEX.out _ (by with_reducible repeat (first | exact Ext.refl _ | assumption | apply Ext.drewN | apply Ext.drew | apply Ext.alloc | (refine Ext.setCell ?_ (by simp <;> omega) _) | (refine Ext.trans ?_ (by assumption)))))).mono ?_); rintro e wa ⟨rfl, hxa⟩))
              have HXA : Hid (Ext wb wa) := Lib.hid (HXQ.out.trans (by with_reducible repeat (first | exact Ext.refl _ | assumption | apply Ext.drewN | apply Ext.drew | apply Ext.alloc | (refine Ext.setCell ?_ (by simp <;> omega) _) | (refine Ext.trans ?_ (by assumption)))))
              clear hxa s0 s1 s2 s3 s4 s5 s6 s7
              obtain ⟨s0, s1, s2, s3, s4, s5, s6, s7⟩ := HSS.out wa (HXB.out.trans HXA.out)
              by_cases ho : L < cn
              · have hoi : (L : Int) < (cn : Int) := by omega
                go_wp2_with (fail)
                go_ret
                exact ⟨by rw [HLD.out, HQ.out, List.all_eq_false.2 ⟨_, HIN.out, by rw [HREF.out]; simp [Nat.not_le.2 ho]⟩]; rfl, HX1.out.trans (HXB.out.trans HXA.out)⟩
              · have hoi : ¬ (L : Int) < (cn : Int) := by omega
                by_cases hs : (cm : Int) = (en : Int)
                · have hsq : ((cm : Int) != (en : Int)) = false := by simp [hs]
                  have HSE := Lib.hid hs
                  clear hs
                  cases kb with
                  | false =>
                    go_wp2_with (first
                      | (go_at_call 31; (with_reducible refine (HK1.out _ (HXB.out.trans HXA.out)).mono ?_); rintro e wc ⟨rfl, hxc⟩; have hxC : Ext wb wc := HXA.out.trans hxc; clear s0 s1 s2 s3 s4 s5 s6 s7; obtain ⟨s0, s1, s2, s3, s4, s5, s6, s7⟩ := HSS.out wc (HXB.out.trans hxC))
                      | (go_at_call 31; (with_reducible refine (HK2.out _ hxC).mono ?_); rintro e wd ⟨rfl, hxd⟩; have hxD : Ext wb wd := hxC.trans hxd))
                    go_ret
                    exact ⟨by rw [HLD.out, HQ.out, List.all_eq_false.2 ⟨_, HIN.out, by rw [HREF.out]; simp [HSE.out]⟩]; rfl, HX1.out.trans (HXB.out.trans hxC)⟩
                  | true =>
                    cases ka with
                    | false =>
                      go_wp2_with (first
                        | (go_at_call 31; (with_reducible refine (HK1.out _ (HXB.out.trans HXA.out)).mono ?_); rintro e wc ⟨rfl, hxc⟩; have hxC : Ext wb wc := HXA.out.trans hxc; clear s0 s1 s2 s3 s4 s5 s6 s7; obtain ⟨s0, s1, s2, s3, s4, s5, s6, s7⟩ := HSS.out wc (HXB.out.trans hxC))
                        | (go_at_call 31; (with_reducible refine (HK2.out _ hxC).mono ?_); rintro e wd ⟨rfl, hxd⟩; have hxD : Ext wb wd := hxC.trans hxd))
                      go_ret
                      exact ⟨by rw [HLD.out, HQ.out, List.all_eq_false.2 ⟨_, HIN.out, by rw [HREF.out]; simp [HSE.out]⟩]; rfl, HX1.out.trans (HXB.out.trans hxD)⟩
                    | true =>
                      cases cf with
                      | true =>
                        go_wp2_with (first
                          | (go_at_call 31; (with_reducible refine (HK1.out _ (HXB.out.trans HXA.out)).mono ?_); rintro e wc ⟨rfl, hxc⟩; have hxC : Ext wb wc := HXA.out.trans hxc; clear s0 s1 s2 s3 s4 s5 s6 s7; obtain ⟨s0, s1, s2, s3, s4, s5, s6, s7⟩ := HSS.out wc (HXB.out.trans hxC))
                          | (go_at_call 31; (with_reducible refine (HK2.out _ hxC).mono ?_); rintro e wd ⟨rfl, hxd⟩; have hxD : Ext wb wd := hxC.trans hxd))
                        go_ret
                        exact ⟨by rw [HLD.out, HQ.out, List.all_eq_false.2 ⟨_, HIN.out, by rw [HREF.out]; simp [HSE.out]⟩]; rfl, HX1.out.trans (HXB.out.trans hxD)⟩
                      | false =>
                        go_wp2_with (first
                          | (go_at_call 31; (with_reducible refine (HK1.out _ (HXB.out.trans HXA.out)).mono ?_); rintro e wc ⟨rfl, hxc⟩; have hxC : Ext wb wc := HXA.out.trans hxc; clear s0 s1 s2 s3 s4 s5 s6 s7; obtain ⟨s0, s1, s2, s3, s4, s5, s6, s7⟩ := HSS.out wc (HXB.out.trans hxC))
                          | (go_at_call 31; (with_reducible refine (HK2.out _ hxC).mono ?_); rintro e wd ⟨rfl, hxd⟩; have hxD : Ext wb wd := hxC.trans hxd))
                        exact ⟨⟨i + 1, by simp, by omega, Lib.hid (by rw [HTK.out, List.all_append, HAL.out]; simp [HREF.out, HSE.out]; omega), Lib.hid hxD⟩, by simp [iof]; omega⟩
                · have hsq : ((cm : Int) != (en : Int)) = true := by simpa using hs
                  have HSE := Lib.hid hs
                  clear hs
                  go_wp2_with (fail)
                  go_ret
                  exact ⟨by rw [HLD.out, HQ.out, List.all_eq_false.2 ⟨_, HIN.out, by rw [HREF.out]; simp [HSE.out]⟩]; rfl, HX1.out.trans (HXB.out.trans HXA.out)⟩
        · obtain rfl : i = l.length := by omega
          go_wp2_with (fail)
          go_ret
          exact ⟨by rw [HLD.out, HQ.out, ← HAL.out, List.take_length]; rfl, HX1.out.trans (HXB.out.trans HX.out)⟩
    · have hlz : ((l.length : Int) != (q : Int)) = true := by simp; omega
      have HLQ := Lib.hid hlq
      clear hlq
      go_wp2_with (fail)
      go_ret
      exact ⟨by rw [HLD.out, HCK.out, decide_eq_false (show ¬ (l.length : Int) = (q : Int) by have := HLQ.out; omega)]; rfl, HX1.out.trans HX2.out⟩
  · have hzq : (er != 0) = true := by simpa using hz
    have HZ := Lib.hid hz
    clear hz
    go_wp2_with (fail)
    go_ret
    exact ⟨by rw [HCK.out, show (er == 0) = false from by simpa using HZ.out]; rfl, HX1.out.trans HX2.out⟩
end Go.Proofs.Ytlekdhhgjhakgaa
