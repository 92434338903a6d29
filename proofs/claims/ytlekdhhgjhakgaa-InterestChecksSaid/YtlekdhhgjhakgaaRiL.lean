/-
  The reference's Least. Conditions: a setup and the bidders lie in memory.
-/
import Derived.Test.YtlekdhhgjhakgaaRiK
import Derived.Test.YtlekdhhgjhakgaaRiF
import Derived.Test.YtlekdhhgjhakgaaJnE
namespace Go.Proofs.Ytlekdhhgjhakgaa
set_option linter.unusedVariables false
set_option linter.unusedSimpArgs false
open Go.RowKit
theorem mayF_sum {M : List (List Nat)} {m o : Nat} (hM : May M m) (ho : o < M.length) : sm (fun k => (mayF M o k).toNat) m = (M[o]).length := by
  have h1 := hM.nodup (List.getElem_mem ho) (List.Sublist.refl _)
  rw [← sm_mem h1.1 h1.2]
  exact sm_congr fun k _ => by unfold mayF rowF; rw [getD_at ho]
theorem least_pos {M : List (List Nat)} {m each L : Nat} (hL : Least M m each L) (hn : 0 < M.length) (he : 0 < each) : 1 ≤ L := by
  have h := Can.room hL.can
  have h2 : 0 < M.length * each := Nat.mul_pos hn he
  rcases Nat.eq_zero_or_pos L with e | e
  · subst e; omega
  · exact e
theorem asr_le (s : Su) (h : s.ok) : (asrF s.ps).length ≤ 1000 := by
  have h1 := asrR_len s.ps []
  have h2 : (asrF s.ps).length = (asrR s.ps []).length := (srtZ_perm _).length_eq
  have h3 := h.np
  omega
set_option maxRecDepth 100000 in
set_option maxHeartbeats 8000000 in
theorem rLeast_any (c0 c1 c2 c3 c4 c5 : Value) (A : Option Addr) (cap : Nat) (s : Su) (bs : List Int) (each : Int) (w : World) (h : SuV w c0 c1 c2 c3 c4 c5 s) (hbs : IRd w (.slice A bs.length cap) bs) (hcap : bs.length ≤ cap) :
    Calls Try.prog 39 #[.agg #[c0, c1, c2, c3, c4, c5], .slice A bs.length cap, .int .i64 each] w fun e w' => ∃ L : Nat, e = .returned (.tuple #[.int .i64 L, .int .i64 (openE s bs each)]) ∧ Ext w w' ∧
      (openE s bs each = 0 → Least (mayL s bs) (asrF s.ps).length each.toNat L ∧ L ≤ 1000) ∧ (openE s bs each ≠ 0 → L = 0) := by
  classical
  have hS := h
  have hal := asr_le s h.ok
  obtain ⟨hps, hhs, hrs, ⟨q1, rfl⟩, ⟨q4, rfl⟩, ⟨q5, rfl⟩, hok⟩ := h
  obtain ⟨b0, n0, rfl⟩ := hps.form
  obtain ⟨b2, n2, rfl⟩ := hhs.form
  obtain ⟨b3, n3, rfl⟩ := hrs.form
  have HBS := Lib.hid hbs
  have HR := Lib.hid (fun wz hz => refRight_any A cap bs each wz (hbs.ext hz) hcap)
  clear hps hhs hrs hok hbs
  go_enter Try.func39, Try.ntmps39
  go_upto_region 1 with (fail)
  obtain ⟨v0, hv0⟩ : ∃ v0, v0 = Value.slice b0 s.ps.length n0 := ⟨_, rfl⟩
  obtain ⟨v2, hv2⟩ : ∃ v2, v2 = Value.slice b2 s.hs.length n2 := ⟨_, rfl⟩
  obtain ⟨v3, hv3⟩ : ∃ v3, v3 = Value.slice b3 s.rs.length n3 := ⟨_, rfl⟩
  rw [← hv0, ← hv2, ← hv3] at hS ⊢
  have hx1 : Ext w (w.alloc (.cells #[v0, .int .i64 q1, v2, v3, .int .i64 q4, .int .i64 q5] 28)) := Ext.alloc (Ext.refl _) _
  have hb1 := alloc_at w (.cells #[v0, .int .i64 q1, v2, v3, .int .i64 q4, .int .i64 q5] 28)
  obtain ⟨D, hD⟩ : ∃ D, D = w.heap.size := ⟨_, rfl⟩
  rw [← hD] at hb1 ⊢
  clear hD
  generalize w.alloc (.cells #[v0, .int .i64 q1, v2, v3, .int .i64 q4, .int .i64 q5] 28) = W1 at *
  have HS := Lib.hid (hS.ext hx1)
  have HB := Lib.hid hb1; have HX1 := Lib.hid hx1
  have HC : Hid (∀ wz, Ext W1 wz → wz.cell? ⟨D, 0, none⟩ = some v0 ∧ wz.cell? ⟨D, 1, none⟩ = some (.int .i64 q1) ∧ wz.cell? ⟨D, 2, none⟩ = some v2 ∧ wz.cell? ⟨D, 3, none⟩ = some v3 ∧ wz.cell? ⟨D, 4, none⟩ = some (.int .i64 q4) ∧ wz.cell? ⟨D, 5, none⟩ = some (.int .i64 q5)) := Lib.hid fun wz hz => by
    have h1 := (hz.block _ (Rg.lt_of_heap HB.out)).trans HB.out
    exact ⟨cell_of_row wz D 0 _ _ _ h1, cell_of_row wz D 1 _ _ _ h1, cell_of_row wz D 2 _ _ _ h1, cell_of_row wz D 3 _ _ _ h1, cell_of_row wz D 4 _ _ _ h1, cell_of_row wz D 5 _ _ _ h1⟩
  have HR1 := Lib.hid (HR.out W1 hx1)
  clear hb1 hx1 hS hv0 hv2 hv3 HR HB
  cases hr : rightF bs each with
  | false =>
    rw [hr] at HR1
    have HO : Hid (openE s bs each = 1) := Lib.hid (by unfold openE; rw [if_pos hr])
    clear hr
    go_wp2_with (first | (go_at_call 55; (with_reducible refine HR1.out.mono ?_); rintro e wa ⟨rfl, hxa⟩))
    go_ret2
    exact ⟨0, by rw [HO.out]; rfl, HX1.out.trans hxa, fun h => absurd (HO.out.symm.trans h) (by decide), fun _ => rfl⟩
  | true =>
    rw [hr] at HR1
    obtain ⟨hb0, hb40, hnd, he0, he13⟩ := right_facts hr
    obtain ⟨e, rfl⟩ : ∃ e : Nat, each = (e : Int) := ⟨each.toNat, by omega⟩
    have HRT := Lib.hid hr
    clear hr hnd
    go_upto_region 3 with (first | (go_at_call 55; (with_reducible refine HR1.out.mono ?_); rintro e' wa ⟨rfl, hxa⟩))
    have HXA := Lib.hid hxa
    obtain ⟨g0, g1, g2, g3, g4, g5⟩ := HC.out wa hxa
    have HAS := Lib.hid (Assessors_any _ _ _ _ _ _ s wa (HS.out.ext hxa))
    clear hxa HR1
    by_cases hfew : ((asrF s.ps).length : Int) < (e : Int)
    · have HO : Hid (openE s bs e = 24) := Lib.hid (by unfold openE; rw [HRT.out, if_neg (by decide), if_pos hfew])
      go_wp2_with (first | (go_at_call 41; (with_reducible refine HAS.out.mono ?_); rintro e' wb ⟨av, rfl, hxb, hra⟩; obtain ⟨aA, ac, rfl⟩ := row_formG hra))
      go_ret2
      exact ⟨0, by rw [HO.out]; rfl, HX1.out.trans (HXA.out.trans hxb), fun h => absurd (HO.out.symm.trans h) (by decide), fun _ => rfl⟩
    · have HFW := Lib.hid hfew
      go_upto_region 5 with (first | (go_at_call 41; (with_reducible refine HAS.out.mono ?_); rintro e' wb ⟨av, rfl, hxb, hra⟩; obtain ⟨aA, ac, rfl⟩ := row_formG hra))
      have HXB := Lib.hid (HXA.out.trans hxb)
      clear hra hxb g0 g1 g2 g3 g4 g5 HAS
      obtain ⟨g0, g1, g2, g3, g4, g5⟩ := HC.out wb HXB.out
      have HTA := Lib.hid (table_any _ _ _ _ _ _ _ s bs wb (HS.out.ext HXB.out) (HBS.out.ext (HX1.out.trans HXB.out)) (by omega))
      go_upto_region 7 with (first | (go_at_call 40; (with_reducible refine HTA.out.mono ?_); rintro e' wt ⟨tv, us, rfl, hxt, hto, hul⟩))
      have HXT := Lib.hid (HXB.out.trans hxt)
      have htb := hto.tb
      rw [hul] at htb
      have HO : Hid (openE s bs e = if (mayL s bs).any (fun l => decide ((l.length : Int) < (e : Int))) = true then 36 else 0) := Lib.hid (by unfold openE; rw [HRT.out, if_neg (by decide), if_neg (Int.not_lt.2 HFW.out)])
      have HLN : Hid ((mayL s bs).length = bs.length) := Lib.hid (mayL_len s bs)
      have HMY := Lib.hid (mayL_ok s bs)
      have HLE := Lib.hid (open_least (s := s) (bs := bs) (each := e))
      have HME := Lib.hid (fun o ho => mayF_sum (mayL_ok s bs) (o := o) ho)
      obtain ⟨tg, tc, tr, trc, rfl, htc, -, -, -⟩ := htb.at hb0
      have HTB := Lib.hid htb
      have HTBX : Hid (∀ wz, Ext wt wz → ∀ o, o < bs.length → ∃ r rc, wz.cell? ⟨tg, o, none⟩ = some (.slice (some ⟨r, 0, none⟩) (asrF s.ps).length rc) ∧ ∀ k, k < (asrF s.ps).length → wz.cell? ⟨r, k, none⟩ = some (.bool (mayF (mayL s bs) o k))) := Lib.hid fun wz hz o ho => by
        obtain ⟨g', c', r, rr, e', -, hrow, hrr, hel⟩ := (HTB.out.ext hz).at ho
        injection e' with e' _ e''
        injection e' with e'
        injection e' with e'
        subst e' e''
        exact ⟨r, rr, hrow, hel⟩
      clear htb hto hul hxt g0 g1 g2 g3 g4 g5 HTA HC HS
      generalize hm : (asrF s.ps).length = m at *
      have HMI := Lib.hid hm
      clear hm
      go_loopw [9] (fun iv wr => ∃ i : Nat, iv = .int .i64 i ∧ i ≤ bs.length ∧ Hid (∀ o (h : o < (mayL s bs).length), o < i → e ≤ ((mayL s bs)[o]).length) ∧ Hid (Ext wt wr)) (fun iv _ => bs.length - (iof iv).toNat)
      case atStart => exact ⟨0, rfl, by omega, Lib.hid (fun o _ h => absurd h (Nat.not_lt_zero _)), Lib.hid (Ext.refl _)⟩
      case round =>
        rename World => wo
        obtain ⟨i, rfl, hi, HAL, HX⟩ := hrel
        by_cases hil : i < bs.length
        · go_upto_region 11 with (fail)
          try rw [show decide ((i : Int) < (bs.length : Int)) = true from decide_eq_true (by omega)]
          go_loopw [10, 11] (fun nv kv wq => ∃ k : Nat, kv = .int .i64 k ∧ k ≤ m ∧ nv = .int .i64 (sm (fun k => (mayF (mayL s bs) i k).toNat) k : Nat) ∧ sm (fun k => (mayF (mayL s bs) i k).toNat) k ≤ k ∧ Hid (Ext wt wq)) (fun _ kv _ => m - (iof kv).toNat)
          case atStart => exact ⟨0, rfl, by omega, rfl, Nat.le_refl _, HX⟩
          case round =>
            obtain ⟨k, rfl, hk, rfl, hsk, HXQ⟩ := hrel
            clear HX
            obtain ⟨r, rc, hrow, hel⟩ := HTBX.out wr HXQ.out i hil
            by_cases hkm : k < m
            · have hcel := hel k hkm
              have HSC : Hid (sm (fun k => (mayF (mayL s bs) i k).toNat) (k + 1) = sm (fun k => (mayF (mayL s bs) i k).toNat) k + (mayF (mayL s bs) i k).toNat) := Lib.hid rfl
              generalize sm (fun k => (mayF (mayL s bs) i k).toNat) k = q at *
              clear hel
              cases hD : mayF (mayL s bs) i k with
              | true =>
                rw [hD] at hcel HSC
                go_wp2_with (fail)
                exact ⟨⟨k + 1, by simp, by omega, by rw [HSC.out]; simp, by rw [HSC.out]; simp; omega, HXQ⟩, by simp [iof]; omega⟩
              | false =>
                rw [hD] at hcel HSC
                go_wp2_with (fail)
                exact ⟨⟨k + 1, by simp, by omega, by rw [HSC.out]; simp, by rw [HSC.out]; simp; omega, HXQ⟩, by simp [iof]; omega⟩
            · obtain rfl : k = m := by omega
              have HI : Hid (i < (mayL s bs).length) := Lib.hid (by rw [HLN.out]; exact hil)
              have HQ : Hid (sm (fun k => (mayF (mayL s bs) i k).toNat) k = ((mayL s bs)[i]'HI.out).length) := Lib.hid (HME.out i HI.out)
              generalize sm (fun k => (mayF (mayL s bs) i k).toNat) k = q at *
              clear hel
              by_cases hq : (q : Int) < (e : Int)
              · have HO2 : Hid (openE s bs e = 36) := Lib.hid (by
                  rw [HO.out, if_pos]
                  exact List.any_eq_true.2 ⟨_, List.getElem_mem HI.out, decide_eq_true (by rw [← HQ.out]; exact hq)⟩)
                go_wp2_with (fail)
                go_ret2
                exact ⟨0, by rw [HO2.out]; rfl, HX1.out.trans (HXT.out.trans HXQ.out), fun h => absurd (HO2.out.symm.trans h) (by decide), fun _ => rfl⟩
              · go_wp2_with (fail)
                exact ⟨⟨i + 1, by simp, by omega, Lib.hid (fun o ho hoi => by
                  by_cases e2 : o = i
                  · subst e2; rw [← HQ.out]; omega
                  · exact HAL.out o ho (by omega)), HXQ⟩, by simp [iof]; omega⟩
        · obtain rfl : i = bs.length := by omega
          have HO2 : Hid (openE s bs e = 0) := Lib.hid (by
            rw [HO.out, if_neg]
            intro h1
            obtain ⟨l, hl, h2⟩ := List.any_eq_true.1 h1
            obtain ⟨o, ho, rfl⟩ := List.getElem_of_mem hl
            have := HAL.out o ho (by rw [← HLN.out]; exact ho)
            have := of_decide_eq_true h2
            omega)
          obtain ⟨L, hLn, hL⟩ := HLE.out HO2.out
          have HL := Lib.hid hL
          have hL1 : 1 ≤ L := least_pos hL (by rw [HLN.out]; exact hb0) (by omega)
          have hm0 : 0 < m ∧ m ≤ 1000 := by omega
          have HXO := Lib.hid (HXT.out.trans HX.out)
          clear hL HLE HO HAL
          go_upto_region 18 with (fail)
          go_loopw [12] (fun lv wq => ∃ l : Nat, lv = .int .i64 l ∧ 1 ≤ l ∧ l ≤ L ∧ Hid (Ext wt wq)) (fun lv _ => L - (iof lv).toNat)
          case atStart => exact ⟨1, rfl, by omega, hL1, HX⟩
          case round =>
            obtain ⟨l, rfl, hl1, hlL, HXQ⟩ := hrel
            clear HX
            have HPO := Lib.hid (possible_any (.slice (some ⟨tg, 0, none⟩) bs.length tc) (.slice none 0 0) (mayL s bs) [] m e l wr (by rw [HLN.out]; exact HTB.out.ext HXQ.out) ⟨none, 0, rfl, Nat.le_refl _, .inl rfl⟩ HMY.out ⟨Nat.zero_le _, fun o ho => absurd ho (Nat.not_lt_zero _)⟩ (by rw [HLN.out]; omega) hm0 (by omega) (by omega))
            by_cases hc : CanR (mayL s bs) m e l []
            · have HLL : Hid (l = L) := Lib.hid (by
                rcases Nat.lt_or_ge l L with h | h
                · exact absurd hc (HL.out.no l h)
                · omega)
              rw [decide_eq_true hc] at HPO
              clear hc
              go_wp2_with (first | (go_at_call 56; (with_reducible refine HPO.out.mono ?_); rintro e' w1 ⟨rfl, hx⟩))
              go_ret2
              exact ⟨l, by rw [HO2.out]; rfl, HX1.out.trans (HXT.out.trans (HXQ.out.trans hx)), fun _ => ⟨by rw [HLL.out, HMI.out]; exact HL.out, by omega⟩, fun h => absurd HO2.out h⟩
            · have HLL : Hid (l < L) := Lib.hid (by
                rcases Nat.lt_or_ge l L with h | h
                · exact h
                · exact absurd (Can.more HL.out.can h) hc)
              rw [decide_eq_false hc] at HPO
              clear hc
              go_wp2_with (first | (go_at_call 56; (with_reducible refine HPO.out.mono ?_); rintro e' w1 ⟨rfl, hx⟩))
              exact ⟨⟨l + 1, by simp, by omega, HLL.out, Lib.hid (HXQ.out.trans hx)⟩, by have := HLL.out; simp [iof]; omega⟩
end Go.Proofs.Ytlekdhhgjhakgaa
