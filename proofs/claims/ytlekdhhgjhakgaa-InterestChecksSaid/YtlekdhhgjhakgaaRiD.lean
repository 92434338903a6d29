/-
  The reference's Parts and Conflict. Conditions: a setup lies in memory.
-/
import Derived.Test.YtlekdhhgjhakgaaRiC
namespace Go.Proofs.Ytlekdhhgjhakgaa
set_option linter.unusedVariables false
set_option linter.unusedSimpArgs false
open Go.RowKit
set_option maxRecDepth 100000 in
set_option maxHeartbeats 8000000 in
theorem refParts_any (c0 c1 c2 c3 c4 c5 : Value) (s : Su) (p b : Int) (w : World) (h : SuV w c0 c1 c2 c3 c4 c5 s) (hp : OkI p) :
    Calls Try.prog 14 #[.agg #[c0, c1, c2, c3, c4, c5], .int .i64 p, .int .i64 b] w fun e w' => e = .returned (.int .i64 (partsF s.hs b (cirF s.rs p))) ∧ Ext w w' := by
  have HSU := Lib.hid h
  have hnr := h.ok.nr
  have HLC : Hid ((cirL s.rs p).length ≤ 10000) := Lib.hid (by
    have h1 := relF_len s.rs [p]
    have h2 := relF_len s.rs (relF s.rs [p])
    unfold cirL
    simp at h1
    omega)
  have HOC : Hid (∀ x ∈ cirL s.rs p, OkI x) := Lib.hid (relF_ok (relF_ok (fun x hx => by rw [List.mem_singleton] at hx; subst hx; exact hp) h.ok.rs) h.ok.rs)
  obtain ⟨hps, hhs, hrs, ⟨q1, rfl⟩, ⟨q4, rfl⟩, ⟨q5, rfl⟩, hok⟩ := h
  obtain ⟨b0, n0, rfl⟩ := hps.form
  obtain ⟨b2, n2, rfl⟩ := hhs.form
  obtain ⟨b3, n3, rfl⟩ := hrs.form
  have HHS := Lib.hid hhs; have HOK := Lib.hid hok
  have hnh := hok.nh
  clear hps hhs hrs hok
  go_enter Try.func14, Try.ntmps14
  go_upto_region 1 with (fail)
  obtain ⟨v0, hv0⟩ : ∃ v0, v0 = Value.slice b0 s.ps.length n0 := ⟨_, rfl⟩
  obtain ⟨v3, hv3⟩ : ∃ v3, v3 = Value.slice b3 s.rs.length n3 := ⟨_, rfl⟩
  rw [← hv0, ← hv3] at HSU ⊢
  have hx1 : Ext w (w.alloc (.cells #[v0, .int .i64 q1, .slice b2 s.hs.length n2, v3, .int .i64 q4, .int .i64 q5] 28)) := Ext.alloc (Ext.refl _) _
  have hb1 := alloc_at w (.cells #[v0, .int .i64 q1, .slice b2 s.hs.length n2, v3, .int .i64 q4, .int .i64 q5] 28)
  obtain ⟨D, hD⟩ : ∃ D, D = w.heap.size := ⟨_, rfl⟩
  rw [← hD] at hb1 ⊢
  clear hD
  generalize w.alloc (.cells #[v0, .int .i64 q1, .slice b2 s.hs.length n2, v3, .int .i64 q4, .int .i64 q5] 28) = W1 at *
  have HB1 := Lib.hid hb1; have HX1 := Lib.hid hx1
  have HC1 := Lib.hid (Circle_any _ _ _ _ _ _ s p W1 (HSU.out.ext hx1) hp)
  have e0 := cell_of_row W1 D 0 _ _ _ hb1
  have e1 := cell_of_row W1 D 1 _ _ _ hb1
  have e2 := cell_of_row W1 D 2 _ _ _ hb1
  have e3 := cell_of_row W1 D 3 _ _ _ hb1
  have e4 := cell_of_row W1 D 4 _ _ _ hb1
  have e5 := cell_of_row W1 D 5 _ _ _ hb1
  change W1.cell? _ = some v0 at e0
  change W1.cell? _ = some (.int .i64 q1) at e1
  change W1.cell? _ = some (.slice b2 s.hs.length n2) at e2
  change W1.cell? _ = some v3 at e3
  change W1.cell? _ = some (.int .i64 q4) at e4
  change W1.cell? _ = some (.int .i64 q5) at e5
  clear hb1 hx1 hv0 hv3
  go_upto_region 2 with (go_at_call 30; (with_reducible refine HC1.out.mono ?_); rintro e wa ⟨v', rfl, hra, hxa⟩)
  obtain ⟨cA, cc, rfl⟩ := row_formG hra
  have HRA := Lib.hid hra; have HBA := Lib.hid ((hxa.block _ (Rg.lt_of_heap HB1.out)).trans HB1.out); have HXA := Lib.hid (HX1.out.trans hxa)
  clear hra hxa HC1 HB1 HX1 e0 e1 e2 e3 e4 e5
  have HCN : Hid (∀ x wz, Ext wa wz → Calls Try.prog 31 #[.slice cA (cirL s.rs p).length cc, .int .i64 x] wz fun e w' => e = .returned (.bool (cirF s.rs p x)) ∧ Ext wz w') := Lib.hid fun x wz hz => by
    have h9 := contains_any _ (cirL s.rs p) x wz ((ird_row HRA.out HOC.out (by have := HLC.out; omega)).ext hz) (by have := HLC.out; omega)
    rwa [cirL_mem] at h9
  go_upto_region 4 with (fail)
  obtain ⟨f, hf⟩ : ∃ f, f = cirF s.rs p := ⟨_, rfl⟩
  rw [← hf] at HCN
  have HFE := Lib.hid hf
  clear hf
  go_loopw [8, 9] (fun sv k wr => ∃ i : Nat, k = .int .i64 i ∧ i ≤ s.hs.length ∧ sv = .int .i64 (partsF (s.hs.take i) b f) ∧ Hid (Ext wa wr)) (fun _ k _ => s.hs.length - (iof k).toNat)
  case atStart => exact ⟨0, rfl, by omega, rfl, Lib.hid (Ext.refl _)⟩
  case round =>
    obtain ⟨i, rfl, hi, rfl, HX⟩ := hrel
    have g2 : wr.cell? ⟨D, 2, none⟩ = some (.slice b2 s.hs.length n2) := cell_of_row wr D 2 _ _ _ ((HX.out.block _ (Rg.lt_of_heap HBA.out)).trans HBA.out)
    by_cases hil : i < s.hs.length
    · obtain ⟨g, rfl, hgl, d0, d1, d2⟩ := ho_at (HHS.out.ext (HXA.out.trans HX.out)) i hil
      have o := HOK.out.hs s.hs[i] (List.getElem_mem _)
      have HT : Hid (partsF (s.hs.take (i + 1)) b f = partsF (s.hs.take i) b f + pctF b f s.hs[i]) := Lib.hid (by rw [List.take_succ_eq_append_getElem hil, parts_snoc])
      have hbd := parts_bd b f (s.hs.take i)
      rw [List.length_take] at hbd
      obtain ⟨bd1, bd2⟩ := hbd
      have bd3 : partsF (s.hs.take i) b f ≤ 100000 := by omega
      generalize s.hs[i] = r at *
      obtain ⟨hp', hb, hc⟩ := r
      simp only at d0 d1 d2 o
      obtain ⟨op, ob, oc⟩ := o
      generalize partsF (s.hs.take i) b f = sm0 at *
      have HPF : Hid (pctF b f ⟨hp', hb, hc⟩ = if (hb == b && decide (0 < hc) && decide (hc ≤ 100) && f hp') = true then hc else 0) := Lib.hid rfl
      go_upto_region 7 with (fail)
      have hx4 : Ext wr (wr.alloc (.cells #[.int .i64 hp', .int .i64 hb, .int .i64 hc] 33)) := Ext.alloc (Ext.refl _) _
      have hb4 := alloc_at wr (.cells #[.int .i64 hp', .int .i64 hb, .int .i64 hc] 33)
      obtain ⟨gb, hgb⟩ : ∃ gb, gb = wr.heap.size := ⟨_, rfl⟩
      rw [← hgb] at hb4 ⊢
      have HX4 := Lib.hid (HX.out.trans hx4)
      clear hgb hx4 d0 d1 d2 hgl HX g2
      generalize wr.alloc (.cells #[.int .i64 hp', .int .i64 hb, .int .i64 hc] 33) = W4 at *
      have e0 := cell_of_row W4 gb 0 _ _ _ hb4
      have e1 := cell_of_row W4 gb 1 _ _ _ hb4
      have e2 := cell_of_row W4 gb 2 _ _ _ hb4
      change W4.cell? _ = some (.int .i64 hp') at e0
      change W4.cell? _ = some (.int .i64 hb) at e1
      change W4.cell? _ = some (.int .i64 hc) at e2
      have HCQ : Hid (∀ wz, Ext W4 wz → wz.cell? ⟨gb, 2, none⟩ = some (.int .i64 hc)) := Lib.hid fun wz hz => (hz.cells.1 _ _ (Rg.lt_of_heap hb4)).trans e2
      have HC4 := Lib.hid (HCN.out hp' W4 HX4.out)
      clear hb4
      by_cases h1 : hb = b
      · by_cases h2 : 0 < hc
        · by_cases h3 : hc ≤ 100
          · cases h4 : f hp' with
            | true =>
              rw [h4] at HC4
              have HN : Hid (partsF (s.hs.take (i + 1)) b f = sm0 + hc) := Lib.hid (by rw [HT.out, HPF.out, if_pos (by simp [h1, h2, h3, h4])])
              clear HT HPF
              have h2b : (1 : Int) ≤ hc := h2
              go_wp2_with (first | (go_at_call 31; (with_reducible refine HC4.out.mono ?_); rintro e w8 ⟨rfl, hx8⟩; have e28 := HCQ.out w8 hx8))
              exact ⟨⟨i + 1, by simp, by omega, by rw [HN.out], Lib.hid (HX4.out.trans hx8)⟩, by simp [iof]; omega⟩
            | false =>
              rw [h4] at HC4
              have h2b : (1 : Int) ≤ hc := h2
              have HN : Hid (partsF (s.hs.take (i + 1)) b f = sm0) := Lib.hid (by rw [HT.out, HPF.out, if_neg (by simp [h4])]; omega)
              clear HT HPF
              go_wp2_with (first | (go_at_call 31; (with_reducible refine HC4.out.mono ?_); rintro e w8 ⟨rfl, hx8⟩))
              exact ⟨⟨i + 1, by simp, by omega, by rw [HN.out], Lib.hid (HX4.out.trans (by with_reducible repeat (first | exact Ext.refl _ | assumption | apply Ext.drewN | apply Ext.drew | apply Ext.alloc | (refine Ext.setCell ?_ (by simp <;> omega) _) | (refine Ext.trans ?_ (by assumption)))))⟩, by simp [iof]; omega⟩
          · have h2b : (1 : Int) ≤ hc := h2
            have HN : Hid (partsF (s.hs.take (i + 1)) b f = sm0) := Lib.hid (by rw [HT.out, HPF.out, if_neg (by simp [h3])]; omega)
            clear HT HPF
            go_wp2_with (first | (go_at_call 31; (with_reducible refine HC4.out.mono ?_); rintro e w8 ⟨rfl, hx8⟩))
            exact ⟨⟨i + 1, by simp, by omega, by rw [HN.out], Lib.hid (HX4.out.trans (by with_reducible repeat (first | exact Ext.refl _ | assumption | apply Ext.drewN | apply Ext.drew | apply Ext.alloc | (refine Ext.setCell ?_ (by simp <;> omega) _) | (refine Ext.trans ?_ (by assumption)))))⟩, by simp [iof]; omega⟩
        · have h2b : ¬ (1 : Int) ≤ hc := h2
          have HN : Hid (partsF (s.hs.take (i + 1)) b f = sm0) := Lib.hid (by rw [HT.out, HPF.out, if_neg (by simp [h2])]; omega)
          clear HT HPF
          go_wp2_with (first | (go_at_call 31; (with_reducible refine HC4.out.mono ?_); rintro e w8 ⟨rfl, hx8⟩))
          exact ⟨⟨i + 1, by simp, by omega, by rw [HN.out], Lib.hid (HX4.out.trans (by with_reducible repeat (first | exact Ext.refl _ | assumption | apply Ext.drewN | apply Ext.drew | apply Ext.alloc | (refine Ext.setCell ?_ (by simp <;> omega) _) | (refine Ext.trans ?_ (by assumption)))))⟩, by simp [iof]; omega⟩
      · have h1b : (hb == b) = false := by simpa using h1
        have HN : Hid (partsF (s.hs.take (i + 1)) b f = sm0) := Lib.hid (by rw [HT.out, HPF.out, if_neg (by simp [h1])]; omega)
        clear HT HPF
        go_wp2_with (first | (go_at_call 31; (with_reducible refine HC4.out.mono ?_); rintro e w8 ⟨rfl, hx8⟩))
        exact ⟨⟨i + 1, by simp, by omega, by rw [HN.out], Lib.hid (HX4.out.trans (by with_reducible repeat (first | exact Ext.refl _ | assumption | apply Ext.drewN | apply Ext.drew | apply Ext.alloc | (refine Ext.setCell ?_ (by simp <;> omega) _) | (refine Ext.trans ?_ (by assumption)))))⟩, by simp [iof]; omega⟩
    · obtain rfl : i = s.hs.length := by omega
      have HL : Hid (partsF (s.hs.take s.hs.length) b f = partsF s.hs b f) := Lib.hid (by rw [List.take_length])
      generalize partsF (s.hs.take s.hs.length) b f = r at *
      go_wp2_with (fail)
      go_ret
      exact ⟨by rw [← HFE.out, ← HL.out]; rfl, HXA.out.trans HX.out⟩
set_option maxRecDepth 100000 in
set_option maxHeartbeats 8000000 in
theorem refConflict_any (c0 c1 c2 c3 c4 c5 : Value) (s : Su) (p b : Int) (w : World) (h : SuV w c0 c1 c2 c3 c4 c5 s) (hp : OkI p) :
    Calls Try.prog 16 #[.agg #[c0, c1, c2, c3, c4, c5], .int .i64 p, .int .i64 b] w fun e w' => e = .returned (.bool (confF s p b)) ∧ Ext w w' := by
  have HSU := Lib.hid h
  have HCF : Hid (confF s p b = (cirF s.rs p b || decide (5 ≤ partsF s.hs b (cirF s.rs p)))) := Lib.hid rfl
  have hnr := h.ok.nr
  have HLC : Hid ((cirL s.rs p).length ≤ 10000) := Lib.hid (by
    have h1 := relF_len s.rs [p]
    have h2 := relF_len s.rs (relF s.rs [p])
    unfold cirL
    simp at h1
    omega)
  have HOC : Hid (∀ x ∈ cirL s.rs p, OkI x) := Lib.hid (relF_ok (relF_ok (fun x hx => by rw [List.mem_singleton] at hx; subst hx; exact hp) h.ok.rs) h.ok.rs)
  obtain ⟨hps, hhs, hrs, ⟨q1, rfl⟩, ⟨q4, rfl⟩, ⟨q5, rfl⟩, hok⟩ := h
  obtain ⟨b0, n0, rfl⟩ := hps.form
  obtain ⟨b2, n2, rfl⟩ := hhs.form
  obtain ⟨b3, n3, rfl⟩ := hrs.form
  clear hps hhs hrs hok
  go_enter Try.func16, Try.ntmps16
  go_upto_region 1 with (fail)
  obtain ⟨v0, hv0⟩ : ∃ v0, v0 = Value.slice b0 s.ps.length n0 := ⟨_, rfl⟩
  obtain ⟨v2, hv2⟩ : ∃ v2, v2 = Value.slice b2 s.hs.length n2 := ⟨_, rfl⟩
  obtain ⟨v3, hv3⟩ : ∃ v3, v3 = Value.slice b3 s.rs.length n3 := ⟨_, rfl⟩
  rw [← hv0, ← hv2, ← hv3] at HSU ⊢
  have hx1 : Ext w (w.alloc (.cells #[v0, .int .i64 q1, v2, v3, .int .i64 q4, .int .i64 q5] 28)) := Ext.alloc (Ext.refl _) _
  have hb1 := alloc_at w (.cells #[v0, .int .i64 q1, v2, v3, .int .i64 q4, .int .i64 q5] 28)
  obtain ⟨D, hD⟩ : ∃ D, D = w.heap.size := ⟨_, rfl⟩
  rw [← hD] at hb1 ⊢
  clear hD
  generalize w.alloc (.cells #[v0, .int .i64 q1, v2, v3, .int .i64 q4, .int .i64 q5] 28) = W1 at *
  have HB1 := Lib.hid hb1; have HX1 := Lib.hid hx1
  have HC1 := Lib.hid (Circle_any _ _ _ _ _ _ s p W1 (HSU.out.ext hx1) hp)
  have HC : Hid (∀ wz, Ext W1 wz → wz.cell? ⟨D, 0, none⟩ = some v0 ∧ wz.cell? ⟨D, 1, none⟩ = some (.int .i64 q1) ∧ wz.cell? ⟨D, 2, none⟩ = some v2 ∧ wz.cell? ⟨D, 3, none⟩ = some v3 ∧ wz.cell? ⟨D, 4, none⟩ = some (.int .i64 q4) ∧ wz.cell? ⟨D, 5, none⟩ = some (.int .i64 q5)) := Lib.hid fun wz hz => by
    have h1 := (hz.block _ (Rg.lt_of_heap HB1.out)).trans HB1.out
    exact ⟨cell_of_row wz D 0 _ _ _ h1, cell_of_row wz D 1 _ _ _ h1, cell_of_row wz D 2 _ _ _ h1, cell_of_row wz D 3 _ _ _ h1, cell_of_row wz D 4 _ _ _ h1, cell_of_row wz D 5 _ _ _ h1⟩
  have HS1 := Lib.hid (HSU.out.ext hx1)
  obtain ⟨e0, e1, e2, e3, e4, e5⟩ := HC.out W1 (Ext.refl _)
  clear hb1 hx1 hv0 hv2 hv3
  go_upto_region 2 with (go_at_call 30; (with_reducible refine HC1.out.mono ?_); rintro e wa ⟨v', rfl, hra, hxa⟩)
  obtain ⟨cA, cc, rfl⟩ := row_formG hra
  have HCN := Lib.hid (contains_any _ (cirL s.rs p) b wa (ird_row hra HOC.out (by have := HLC.out; omega)) (by have := HLC.out; omega))
  rw [cirL_mem] at HCN
  have HPA := Lib.hid (fun wz (hz : Ext wa wz) => refParts_any _ _ _ _ _ _ s p b wz (HS1.out.ext (hxa.trans hz)) hp)
  have HCW : Hid (∀ wz, Ext wa wz → Ext W1 wz) := Lib.hid fun wz hz => hxa.trans hz
  have HXA := Lib.hid (HX1.out.trans hxa)
  clear hra hxa HC1 HB1 HX1 e0 e1 e2 e3 e4 e5
  generalize partsF s.hs b (cirF s.rs p) = pt at *
  cases h1 : cirF s.rs p b with
  | true =>
    rw [h1] at HCN HCF
    go_wp2_with (first | (go_at_call 31; (with_reducible refine HCN.out.mono ?_); rintro e wb ⟨rfl, hxb⟩))
    go_ret
    exact ⟨by rw [HCF.out]; rfl, HXA.out.trans (by with_reducible repeat (first | exact Ext.refl _ | assumption | apply Ext.drewN | apply Ext.drew | apply Ext.alloc | (refine Ext.setCell ?_ (by simp <;> omega) _) | (refine Ext.trans ?_ (by assumption))))⟩
  | false =>
    rw [h1] at HCN HCF
    go_wp2_with (first | (go_at_call 31; (with_reducible refine HCN.out.mono ?_); rintro e wb ⟨rfl, hxb⟩; obtain ⟨d0, d1, d2, d3, d4, d5⟩ := HC.out wb (HCW.out wb hxb)) | (go_at_call 14; (with_reducible refine (HPA.out _ hxb).mono ?_); rintro e wd ⟨rfl, hxd⟩))
    go_ret
    exact ⟨by rw [HCF.out]; rfl, HXA.out.trans (hxb.trans hxd)⟩
end Go.Proofs.Ytlekdhhgjhakgaa
