/-
  The reference's related. Conditions: a setup and a list lie in memory.
-/
import Derived.Test.YtlekdhhgjhakgaaRiA
import Derived.Test.YtlekdhhgjhakgaaJnE
namespace Go.Proofs.Ytlekdhhgjhakgaa
set_option linter.unusedVariables false
set_option linter.unusedSimpArgs false
open Go.RowKit
set_option maxRecDepth 100000 in
set_option maxHeartbeats 8000000 in
theorem related_any (c0 c1 c2 c3 c4 c5 v : Value) (s : Su) (l : List Int) (w : World) (h : SuV w c0 c1 c2 c3 c4 c5 s) (hv : IRd w v l) (hl : l.length ≤ 100000) :
    Calls Try.prog 48 #[.agg #[c0, c1, c2, c3, c4, c5], v] w fun e w' => ∃ v', e = .returned v' ∧ w'.ownsRow w.heap.size 3 1 v' (relF s.rs l).length ((relF s.rs l).flatMap celI) ∧ Ext w w' := by
  obtain ⟨hps, hhs, hrs, ⟨q1, rfl⟩, ⟨q4, rfl⟩, ⟨q5, rfl⟩, hok⟩ := h
  obtain ⟨b0, n0, rfl⟩ := hps.form
  obtain ⟨b2, n2, rfl⟩ := hhs.form
  obtain ⟨b3, n3, rfl⟩ := hrs.form
  have HRS := Lib.hid hrs; have HOK := Lib.hid hok; have HIL := Lib.hid hv
  obtain ⟨vA, vc, rfl, hlm, hlo, hlc⟩ := hv
  have HLO := Lib.hid hlo; have HLC := Lib.hid hlc
  have hnr := hok.nr
  obtain ⟨D, hD⟩ : ∃ D, D = w.heap.size := ⟨_, rfl⟩
  clear hps hhs hrs hok hlo hlc
  go_enter Try.func48, Try.ntmps48
  go_upto_region 1 with (fail)
  obtain ⟨row, hrow⟩ : ∃ row : Array Value, row = #[.slice b0 s.ps.length n0, .int .i64 q1, .slice b2 s.hs.length n2, .slice b3 s.rs.length n3, .int .i64 q4, .int .i64 q5] := ⟨_, rfl⟩
  have hrow3 : row[3]? = some (.slice b3 s.rs.length n3) := by rw [hrow]; rfl
  rw [← hrow]
  have hx1 : Ext w (w.alloc (.cells row 28)) := Ext.alloc (Ext.refl _) _
  have hb1 := alloc_at w (.cells row 28)
  rw [← hD] at hb1 ⊢
  generalize w.alloc (.cells row 28) = W1 at *
  have HB1 := Lib.hid hb1; have HX1 := Lib.hid hx1; have HR3 := Lib.hid hrow3; have HD := Lib.hid hD
  clear hrow hrow3 hb1 hx1 hD
  have hsrc : l = [] ∨ ∃ b off, vA = some ⟨b, off, none⟩ ∧ ∀ k (h : k < l.length), (W1.alloc (.cells #[] 3)).cell? ⟨b, off + k, none⟩ = some (.int .i64 l[k]) := by
    obtain ⟨A', c', h1, -, -, h4⟩ := HIL.out.ext (HX1.out.trans (Ext.alloc (Ext.refl W1) (.cells #[] 3)))
    injection h1 with h1
    subst h1
    exact h4
  have hown := own_lit (B := w.heap.size) (n := 0) (sz := 1) (xs := []) HX1.out.size (alloc_at W1 (.cells #[] 3)) rfl (by decide)
  have hll : ([] : List Int).length + l.length ≤ 1000000 := by simp; omega
  have hsz : w.heap.size ≤ (W1.alloc (.cells #[] 3)).heap.size := (HX1.out.trans (Ext.alloc (Ext.refl W1) (.cells #[] 3))).size
  go_upto_region 2 with (at_builtin; (refine append_any rfl (.tmp 8) (.tmp 9) rfl w.heap.size (.slice (some ⟨W1.heap.size, 0, none⟩) 0 0) [] (by rfl) hown vA vc l (by rfl) hsrc hll hsz ?_; intro v2 W2 hr2 hg2 _h1 _h2; clear _h1 _h2; have HX2 : Hid (Ext W1 W2) := Lib.hid (row_grown (Ext.alloc (Ext.refl W1) (.cells #[] 3)) (own_lit (B := W1.heap.size) (n := 0) (sz := 1) (xs := []) (Nat.le_refl _) (alloc_at W1 (.cells #[] 3)) rfl (by decide)) (Nat.le_refl _) hg2); rw [List.nil_append] at hr2; have HR2 := Lib.hid hr2; clear hr2 hg2 hsrc hown hsz))
  have HB2 := Lib.hid ((HX2.out.block _ (Rg.lt_of_heap HB1.out)).trans HB1.out)
  have HXW2 := Lib.hid (HX1.out.trans HX2.out)
  clear HB1 HX1 HX2
  go_upto_region 3 with (fail)
  go_loopw [5, 6] (fun bv jv wr => ∃ (j : Nat) (out : List Int), jv = .int .i64 j ∧ j ≤ s.rs.length ∧ Hid (out = (s.rs.take j).foldl (relS l) l) ∧ Hid (wr.ownsRow w.heap.size 3 1 bv out.length (out.flatMap celI)) ∧ Hid (wr.heap[D]? = some (.cells row 28)) ∧ Hid (Ext w wr)) (fun _ jv _ => s.rs.length - (iof jv).toNat)
  case atStart => exact ⟨0, l, rfl, by omega, Lib.hid rfl, HR2, HB2, HXW2⟩
  case round =>
    rename World => wr
    obtain ⟨j, out, rfl, hj, HO, HR, HB, HX⟩ := hrel
    clear HR2 HB2 HXW2
    obtain ⟨oA, oc, rfl⟩ := row_formG HR.out
    have e3 := cell_of_row wr D 3 _ _ _ HB.out
    rw [HR3.out] at e3
    have HLN : Hid (out.length ≤ 200000) := Lib.hid (by
      have h1 := relfold_len l (s.rs.take j) l
      rw [← HO.out, List.length_take] at h1
      omega)
    have HOO : Hid (∀ z ∈ out, OkI z) := Lib.hid (by
      rw [HO.out]
      exact relfold_ok l _ l HLO.out fun r hr => HOK.out.rs r (List.mem_of_mem_take hr))
    by_cases hjl : j < s.rs.length
    · obtain ⟨b, rfl, hbl, r0, r1⟩ := re_at (HRS.out.ext HX.out) j hjl
      have HF : Hid ((s.rs.take (j + 1)).foldl (relS l) l = relS l out s.rs[j]) := Lib.hid (by rw [List.take_succ_eq_append_getElem hjl, List.foldl_append, ← HO.out]; rfl)
      have HRK := Lib.hid (HOK.out.rs _ (List.getElem_mem hjl))
      clear HO
      generalize s.rs[j] = r at *
      obtain ⟨ra, rb⟩ := r
      simp only at r0 r1
      go_upto_region 6 with (fail)
      obtain ⟨q, hq⟩ : ∃ q, q = wr.heap.size := ⟨_, rfl⟩
      have hxa : Ext wr (wr.alloc (.cells #[.int .i64 ra, .int .i64 rb] 36)) := Ext.alloc (Ext.refl _) _
      have hqa := alloc_at wr (.cells #[.int .i64 ra, .int .i64 rb] 36)
      rw [← hq] at hqa ⊢
      clear hq
      have HR5 := Lib.hid (row_ext HR.out hxa); have HB5 := Lib.hid ((hxa.block _ (Rg.lt_of_heap HB.out)).trans HB.out); have HX5 := Lib.hid (HX.out.trans hxa)
      generalize wr.alloc (.cells #[.int .i64 ra, .int .i64 rb] 36) = w5 at *
      have HCQ : Hid (∀ wz, Ext w5 wz → wz.cell? ⟨q, 0, none⟩ = some (.int .i64 ra) ∧ wz.cell? ⟨q, 1, none⟩ = some (.int .i64 rb)) := Lib.hid fun wz hz => by
        have h1 := (hz.block _ (Rg.lt_of_heap hqa)).trans hqa
        exact ⟨cell_of_row wz q 0 _ _ _ h1, cell_of_row wz q 1 _ _ _ h1⟩
      have HCL : Hid (∀ x wz, Ext w wz → Calls Try.prog 31 #[.slice vA l.length vc, .int .i64 x] wz fun e w' => e = .returned (.bool (decide (x ∈ l))) ∧ Ext wz w') := Lib.hid fun x wz hz => contains_any _ l x wz (HIL.out.ext hz) (by omega)
      have HCO : Hid (∀ (o : List Int) A c x wz, wz.ownsRow w.heap.size 3 1 (.slice A o.length c) o.length (o.flatMap celI) → (∀ z ∈ o, OkI z) → o.length ≤ 300000 → Calls Try.prog 31 #[.slice A o.length c, .int .i64 x] wz fun e w' => e = .returned (.bool (decide (x ∈ o))) ∧ Ext wz w') := Lib.hid fun o A c x wz h1 h2 h3 => contains_any _ o x wz (ird_row h1 h2 (by omega)) (by omega)
      obtain ⟨p0, p1⟩ := HCQ.out w5 (Ext.refl _)
      have HQA := Lib.hid hqa
      clear hxa hqa r0 r1 hbl HR HB HX e3
      by_cases ha1 : ra ∈ l
      · have HC1 : Hid (Calls Try.prog 31 #[.slice vA l.length vc, .int .i64 ra] w5 fun e w' => e = .returned (.bool true) ∧ Ext w5 w') := Lib.hid (by
          have h9 := HCL.out ra w5 HX5.out
          rwa [decide_eq_true ha1] at h9)
        by_cases hb1 : rb ∈ out
        · have HCP1 : Hid (∀ wz, Ext w5 wz → Calls Try.prog 31 #[.slice oA out.length oc, .int .i64 rb] wz fun e w' => e = .returned (.bool true) ∧ Ext wz w') := Lib.hid fun wz hz => by
            have h9 := HCO.out out oA oc rb wz (row_ext HR5.out hz) HOO.out (by have := HLN.out; omega)
            rwa [decide_eq_true hb1] at h9
          have HO2 : Hid (relS l out (ra, rb) = if rb ∈ l ∧ ra ∉ out then out ++ [ra] else out) := Lib.hid (by unfold relS; simp only; rw [if_neg (show ¬ (ra ∈ l ∧ rb ∉ out) from fun h => h.2 hb1)])
          clear ha1 hb1
          go_upto_region 8 with (first | (go_at_call 31; (with_reducible refine HC1.out.mono ?_); rintro e w4 ⟨rfl, hx4⟩; obtain ⟨p40, p41⟩ := HCQ.out w4 hx4) | (go_at_call 31; (with_reducible refine (HCP1.out _ hx4).mono ?_); rintro e w6 ⟨rfl, hx6⟩))
          have HX6 := Lib.hid (hx4.trans hx6)
          have HR6 := Lib.hid (row_ext HR5.out HX6.out); have HW6 := Lib.hid (HX5.out.trans HX6.out); have HB6 := Lib.hid ((HX6.out.block _ (Rg.lt_of_heap HB5.out)).trans HB5.out)
          have HCQ6 : Hid (∀ wz, Ext w6 wz → wz.cell? ⟨q, 0, none⟩ = some (.int .i64 ra) ∧ wz.cell? ⟨q, 1, none⟩ = some (.int .i64 rb)) := Lib.hid fun wz hz => HCQ.out wz (HX6.out.trans hz)
          clear hx4 hx6 p40 p41 p0 p1
          have HOO2 : Hid (∀ z ∈ out, OkI z) := Lib.hid (by exact HOO.out)
          have HLN2 : Hid (out.length ≤ 200001) := Lib.hid (by have := HLN.out; omega)
          obtain ⟨p60, p61⟩ := HCQ6.out w6 (Ext.refl _)
          by_cases hb2 : rb ∈ l
          · have HC2 : Hid (Calls Try.prog 31 #[.slice vA l.length vc, .int .i64 rb] w6 fun e w' => e = .returned (.bool true) ∧ Ext w6 w') := Lib.hid (by
              have h9 := HCL.out rb w6 HW6.out
              rwa [decide_eq_true hb2] at h9)
            by_cases ha2 : ra ∈ out
            · have HCP : Hid (∀ wz, Ext w6 wz → Calls Try.prog 31 #[.slice oA out.length oc, .int .i64 ra] wz fun e w' => e = .returned (.bool true) ∧ Ext wz w') := Lib.hid fun wz hz => by
                have h9 := HCO.out out oA oc ra wz (row_ext HR6.out hz) HOO2.out (by have := HLN2.out; omega)
                rwa [decide_eq_true ha2] at h9
              have HS : Hid (out = relS l out (ra, rb)) := Lib.hid (by rw [HO2.out, if_neg (fun h => h.2 ha2)])
              clear hb2 ha2
              go_wp2_with (first | (go_at_call 31; (with_reducible refine HC2.out.mono ?_); rintro e w8 ⟨rfl, hx8⟩; obtain ⟨p80, p81⟩ := HCQ6.out w8 hx8) | (go_at_call 31; (with_reducible refine (HCP.out _ hx8).mono ?_); rintro e w9 ⟨rfl, hx9⟩))
              have hx59 := hx8.trans hx9
              exact ⟨⟨j + 1, out, by simp, by omega, Lib.hid (by rw [HF.out]; exact HS.out), Lib.hid (row_ext HR6.out (hx8.trans hx9)), Lib.hid ((hx59.block _ (Rg.lt_of_heap HB6.out)).trans HB6.out), Lib.hid (HW6.out.trans hx59)⟩, by simp [iof]; omega⟩
            · have HCP : Hid (∀ wz, Ext w6 wz → Calls Try.prog 31 #[.slice oA out.length oc, .int .i64 ra] wz fun e w' => e = .returned (.bool false) ∧ Ext wz w') := Lib.hid fun wz hz => by
                have h9 := HCO.out out oA oc ra wz (row_ext HR6.out hz) HOO2.out (by have := HLN2.out; omega)
                rwa [decide_eq_false ha2] at h9
              have HS : Hid (out ++ [ra] = relS l out (ra, rb)) := Lib.hid (by rw [HO2.out, if_pos ⟨hb2, ha2⟩])
              have hel : out.length < 1000000 := by have := HLN2.out; omega
              clear hb2 ha2
              go_upto_region 9 with (first | (go_at_call 31; (with_reducible refine HC2.out.mono ?_); rintro e w8 ⟨rfl, hx8⟩; obtain ⟨p80, p81⟩ := HCQ6.out w8 hx8) | (go_at_call 31; (with_reducible refine (HCP.out _ hx8).mono ?_); rintro e w9 ⟨rfl, hx9⟩))
              have hx59 := hx8.trans hx9
              obtain ⟨p90, p91⟩ := HCQ6.out w9 hx59
              have hxb : Ext w6 (w9.alloc (.cells #[.int .i64 ra] 3)) := hx59.trans (Ext.alloc (Ext.refl _) _)
              have HX10 := Lib.hid (HW6.out.trans hxb)
              have HB10 := Lib.hid ((hxb.block _ (Rg.lt_of_heap HB6.out)).trans HB6.out)
              have HR10 := Lib.hid (row_ext HR6.out ((hx8.trans hx9).trans (Ext.alloc (Ext.refl w9) (.cells #[.int .i64 ra] 3))))
              have hsz : w.heap.size ≤ (w9.alloc (.cells #[.int .i64 ra] 3)).heap.size := HX10.out.size
              clear hxb hx8 hx9 hx59 p60 p61 p80 p81
              go_wp2_with (at_builtin; (refine append_g (cs := celI) (z := .int .i64 0) 22 3 8 Try.underlying22 (by kernel_rfl) (by rfl) (by decide) (by decide) rfl (.tmp 50) (.tmp 53) rfl w.heap.size (.slice oA out.length oc) (out) (by rfl) HR10.out w9.heap.size ra (celI_len _) (by rfl) (alloc_at w9 _) hel hsz ?_; intro g11 cap11 w11 hr11 hg11 hat11; have HX11 := Lib.hid (row_grown HX10.out HR10.out (Nat.le_refl _) hg11); have HB11 := Lib.hid (row_other HR10.out (by decide) hg11 HB10.out); have HR11 := Lib.hid hr11; clear hr11 hg11 hat11 HR10 HX10))
              exact ⟨⟨j + 1, out ++ [ra], by simp, by omega, Lib.hid (by rw [HF.out]; exact HS.out), HR11, HB11, HX11⟩, by simp [iof]; omega⟩
          · have HC2 : Hid (Calls Try.prog 31 #[.slice vA l.length vc, .int .i64 rb] w6 fun e w' => e = .returned (.bool false) ∧ Ext w6 w') := Lib.hid (by
              have h9 := HCL.out rb w6 HW6.out
              rwa [decide_eq_false hb2] at h9)
            have HS : Hid (out = relS l out (ra, rb)) := Lib.hid (by rw [HO2.out, if_neg (fun h => hb2 h.1)])
            clear hb2
            go_wp2_with (first | (go_at_call 31; (with_reducible refine HC2.out.mono ?_); rintro e w8 ⟨rfl, hx8⟩))
            have hx59 := hx8
            exact ⟨⟨j + 1, out, by simp, by omega, Lib.hid (by rw [HF.out]; exact HS.out), Lib.hid (row_ext HR6.out hx8), Lib.hid ((hx59.block _ (Rg.lt_of_heap HB6.out)).trans HB6.out), Lib.hid (HW6.out.trans hx59)⟩, by simp [iof]; omega⟩
        · have HCP1 : Hid (∀ wz, Ext w5 wz → Calls Try.prog 31 #[.slice oA out.length oc, .int .i64 rb] wz fun e w' => e = .returned (.bool false) ∧ Ext wz w') := Lib.hid fun wz hz => by
            have h9 := HCO.out out oA oc rb wz (row_ext HR5.out hz) HOO.out (by have := HLN.out; omega)
            rwa [decide_eq_false hb1] at h9
          have HO2 : Hid (relS l out (ra, rb) = if rb ∈ l ∧ ra ∉ out ++ [rb] then (out ++ [rb]) ++ [ra] else out ++ [rb]) := Lib.hid (by unfold relS; simp only; rw [if_pos (show ra ∈ l ∧ rb ∉ out from ⟨ha1, hb1⟩)])
          have hel : out.length < 1000000 := by have := HLN.out; omega
          clear ha1 hb1
          go_upto_region 7 with (first | (go_at_call 31; (with_reducible refine HC1.out.mono ?_); rintro e w4 ⟨rfl, hx4⟩; obtain ⟨p40, p41⟩ := HCQ.out w4 hx4) | (go_at_call 31; (with_reducible refine (HCP1.out _ hx4).mono ?_); rintro e w3 ⟨rfl, hx3⟩))
          have hx53 := hx4.trans hx3
          obtain ⟨p30, p31⟩ := HCQ.out w3 hx53
          have hxb : Ext w5 (w3.alloc (.cells #[.int .i64 rb] 3)) := hx53.trans (Ext.alloc (Ext.refl _) _)
          have HXb := Lib.hid hxb
          have HRb := Lib.hid (row_ext HR5.out hxb)
          have hsz : w.heap.size ≤ (w3.alloc (.cells #[.int .i64 rb] 3)).heap.size := (HX5.out.trans hxb).size
          clear hxb hx4 hx3 hx53 p40 p41 p0 p1
          go_upto_region 8 with (at_builtin; (refine append_g (cs := celI) (z := .int .i64 0) 22 3 8 Try.underlying22 (by kernel_rfl) (by rfl) (by decide) (by decide) rfl (.tmp 34) (.tmp 37) rfl w.heap.size (.slice oA out.length oc) out (by rfl) HRb.out w3.heap.size rb (celI_len _) (by rfl) (alloc_at w3 _) hel hsz ?_; intro g6 cap6 w6 hr6 hg6 hat6; have HG6 := Lib.hid hg6; have HR6 := Lib.hid hr6; clear hr6 hg6 hat6))
          have HW6 := Lib.hid (row_grown (HX5.out.trans HXb.out) HRb.out (Nat.le_refl _) HG6.out)
          have HB6 := Lib.hid (row_other HRb.out (by decide) HG6.out ((HXb.out.block _ (Rg.lt_of_heap HB5.out)).trans HB5.out))
          have HCQ6 : Hid (∀ wz, Ext w6 wz → wz.cell? ⟨q, 0, none⟩ = some (.int .i64 ra) ∧ wz.cell? ⟨q, 1, none⟩ = some (.int .i64 rb)) := Lib.hid fun wz hz => by
            have h0 := row_other HRb.out (by decide) HG6.out ((HXb.out.block _ (Rg.lt_of_heap HQA.out)).trans HQA.out)
            have h1 := (hz.block _ (Rg.lt_of_heap h0)).trans h0
            exact ⟨cell_of_row wz q 0 _ _ _ h1, cell_of_row wz q 1 _ _ _ h1⟩
          have HOO7 : Hid (∀ z ∈ out ++ [rb], OkI z) := Lib.hid fun z hz => by
            rcases List.mem_append.1 hz with hz | hz
            · exact HOO.out z hz
            · rw [List.mem_singleton] at hz
              subst hz
              exact HRK.out.2
          have HLN7 : Hid ((out ++ [rb]).length ≤ 200001) := Lib.hid (by have := HLN.out; simp; omega)
          clear HRb HG6 HXb hsz p30 p31 hel
          rw [show out.length + 1 = (out ++ [rb]).length by simp] at HR6 ⊢
          generalize out ++ [rb] = o2 at *
          have HOO2 : Hid (∀ z ∈ o2, OkI z) := Lib.hid (by exact HOO7.out)
          have HLN2 : Hid (o2.length ≤ 200001) := Lib.hid (by have := HLN.out; exact HLN7.out)
          obtain ⟨p60, p61⟩ := HCQ6.out w6 (Ext.refl _)
          by_cases hb2 : rb ∈ l
          · have HC2 : Hid (Calls Try.prog 31 #[.slice vA l.length vc, .int .i64 rb] w6 fun e w' => e = .returned (.bool true) ∧ Ext w6 w') := Lib.hid (by
              have h9 := HCL.out rb w6 HW6.out
              rwa [decide_eq_true hb2] at h9)
            by_cases ha2 : ra ∈ o2
            · have HCP : Hid (∀ wz, Ext w6 wz → Calls Try.prog 31 #[.slice (some ⟨g6, 0, none⟩) o2.length cap6, .int .i64 ra] wz fun e w' => e = .returned (.bool true) ∧ Ext wz w') := Lib.hid fun wz hz => by
                have h9 := HCO.out o2 (some ⟨g6, 0, none⟩) cap6 ra wz (row_ext HR6.out hz) HOO2.out (by have := HLN2.out; omega)
                rwa [decide_eq_true ha2] at h9
              have HS : Hid (o2 = relS l out (ra, rb)) := Lib.hid (by rw [HO2.out, if_neg (fun h => h.2 ha2)])
              clear hb2 ha2
              go_wp2_with (first | (go_at_call 31; (with_reducible refine HC2.out.mono ?_); rintro e w8 ⟨rfl, hx8⟩; obtain ⟨p80, p81⟩ := HCQ6.out w8 hx8) | (go_at_call 31; (with_reducible refine (HCP.out _ hx8).mono ?_); rintro e w9 ⟨rfl, hx9⟩))
              have hx59 := hx8.trans hx9
              exact ⟨⟨j + 1, o2, by simp, by omega, Lib.hid (by rw [HF.out]; exact HS.out), Lib.hid (row_ext HR6.out (hx8.trans hx9)), Lib.hid ((hx59.block _ (Rg.lt_of_heap HB6.out)).trans HB6.out), Lib.hid (HW6.out.trans hx59)⟩, by simp [iof]; omega⟩
            · have HCP : Hid (∀ wz, Ext w6 wz → Calls Try.prog 31 #[.slice (some ⟨g6, 0, none⟩) o2.length cap6, .int .i64 ra] wz fun e w' => e = .returned (.bool false) ∧ Ext wz w') := Lib.hid fun wz hz => by
                have h9 := HCO.out o2 (some ⟨g6, 0, none⟩) cap6 ra wz (row_ext HR6.out hz) HOO2.out (by have := HLN2.out; omega)
                rwa [decide_eq_false ha2] at h9
              have HS : Hid (o2 ++ [ra] = relS l out (ra, rb)) := Lib.hid (by rw [HO2.out, if_pos ⟨hb2, ha2⟩])
              have hel : o2.length < 1000000 := by have := HLN2.out; omega
              clear hb2 ha2
              go_upto_region 9 with (first | (go_at_call 31; (with_reducible refine HC2.out.mono ?_); rintro e w8 ⟨rfl, hx8⟩; obtain ⟨p80, p81⟩ := HCQ6.out w8 hx8) | (go_at_call 31; (with_reducible refine (HCP.out _ hx8).mono ?_); rintro e w9 ⟨rfl, hx9⟩))
              have hx59 := hx8.trans hx9
              obtain ⟨p90, p91⟩ := HCQ6.out w9 hx59
              have hxb : Ext w6 (w9.alloc (.cells #[.int .i64 ra] 3)) := hx59.trans (Ext.alloc (Ext.refl _) _)
              have HX10 := Lib.hid (HW6.out.trans hxb)
              have HB10 := Lib.hid ((hxb.block _ (Rg.lt_of_heap HB6.out)).trans HB6.out)
              have HR10 := Lib.hid (row_ext HR6.out ((hx8.trans hx9).trans (Ext.alloc (Ext.refl w9) (.cells #[.int .i64 ra] 3))))
              have hsz : w.heap.size ≤ (w9.alloc (.cells #[.int .i64 ra] 3)).heap.size := HX10.out.size
              clear hxb hx8 hx9 hx59 p60 p61 p80 p81
              go_wp2_with (at_builtin; (refine append_g (cs := celI) (z := .int .i64 0) 22 3 8 Try.underlying22 (by kernel_rfl) (by rfl) (by decide) (by decide) rfl (.tmp 50) (.tmp 53) rfl w.heap.size (.slice (some ⟨g6, 0, none⟩) o2.length cap6) (o2) (by rfl) HR10.out w9.heap.size ra (celI_len _) (by rfl) (alloc_at w9 _) hel hsz ?_; intro g11 cap11 w11 hr11 hg11 hat11; have HX11 := Lib.hid (row_grown HX10.out HR10.out (Nat.le_refl _) hg11); have HB11 := Lib.hid (row_other HR10.out (by decide) hg11 HB10.out); have HR11 := Lib.hid hr11; clear hr11 hg11 hat11 HR10 HX10))
              exact ⟨⟨j + 1, o2 ++ [ra], by simp, by omega, Lib.hid (by rw [HF.out]; exact HS.out), HR11, HB11, HX11⟩, by simp [iof]; omega⟩
          · have HC2 : Hid (Calls Try.prog 31 #[.slice vA l.length vc, .int .i64 rb] w6 fun e w' => e = .returned (.bool false) ∧ Ext w6 w') := Lib.hid (by
              have h9 := HCL.out rb w6 HW6.out
              rwa [decide_eq_false hb2] at h9)
            have HS : Hid (o2 = relS l out (ra, rb)) := Lib.hid (by rw [HO2.out, if_neg (fun h => hb2 h.1)])
            clear hb2
            go_wp2_with (first | (go_at_call 31; (with_reducible refine HC2.out.mono ?_); rintro e w8 ⟨rfl, hx8⟩))
            have hx59 := hx8
            exact ⟨⟨j + 1, o2, by simp, by omega, Lib.hid (by rw [HF.out]; exact HS.out), Lib.hid (row_ext HR6.out hx8), Lib.hid ((hx59.block _ (Rg.lt_of_heap HB6.out)).trans HB6.out), Lib.hid (HW6.out.trans hx59)⟩, by simp [iof]; omega⟩
      · have HC1 : Hid (Calls Try.prog 31 #[.slice vA l.length vc, .int .i64 ra] w5 fun e w' => e = .returned (.bool false) ∧ Ext w5 w') := Lib.hid (by
          have h9 := HCL.out ra w5 HX5.out
          rwa [decide_eq_false ha1] at h9)
        have HO2 : Hid (relS l out (ra, rb) = if rb ∈ l ∧ ra ∉ out then out ++ [ra] else out) := Lib.hid (by unfold relS; simp only; rw [if_neg (show ¬ (ra ∈ l ∧ rb ∉ out) from fun h => ha1 h.1)])
        clear ha1
        go_upto_region 8 with (first | (go_at_call 31; (with_reducible refine HC1.out.mono ?_); rintro e w6 ⟨rfl, hx6⟩))
        have HX6 := Lib.hid hx6
        have HR6 := Lib.hid (row_ext HR5.out HX6.out); have HW6 := Lib.hid (HX5.out.trans HX6.out); have HB6 := Lib.hid ((HX6.out.block _ (Rg.lt_of_heap HB5.out)).trans HB5.out)
        have HCQ6 : Hid (∀ wz, Ext w6 wz → wz.cell? ⟨q, 0, none⟩ = some (.int .i64 ra) ∧ wz.cell? ⟨q, 1, none⟩ = some (.int .i64 rb)) := Lib.hid fun wz hz => HCQ.out wz (HX6.out.trans hz)
        clear hx6 p0 p1
        have HOO2 : Hid (∀ z ∈ out, OkI z) := Lib.hid (by exact HOO.out)
        have HLN2 : Hid (out.length ≤ 200001) := Lib.hid (by have := HLN.out; omega)
        obtain ⟨p60, p61⟩ := HCQ6.out w6 (Ext.refl _)
        by_cases hb2 : rb ∈ l
        · have HC2 : Hid (Calls Try.prog 31 #[.slice vA l.length vc, .int .i64 rb] w6 fun e w' => e = .returned (.bool true) ∧ Ext w6 w') := Lib.hid (by
            have h9 := HCL.out rb w6 HW6.out
            rwa [decide_eq_true hb2] at h9)
          by_cases ha2 : ra ∈ out
          · have HCP : Hid (∀ wz, Ext w6 wz → Calls Try.prog 31 #[.slice oA out.length oc, .int .i64 ra] wz fun e w' => e = .returned (.bool true) ∧ Ext wz w') := Lib.hid fun wz hz => by
              have h9 := HCO.out out oA oc ra wz (row_ext HR6.out hz) HOO2.out (by have := HLN2.out; omega)
              rwa [decide_eq_true ha2] at h9
            have HS : Hid (out = relS l out (ra, rb)) := Lib.hid (by rw [HO2.out, if_neg (fun h => h.2 ha2)])
            clear hb2 ha2
            go_wp2_with (first | (go_at_call 31; (with_reducible refine HC2.out.mono ?_); rintro e w8 ⟨rfl, hx8⟩; obtain ⟨p80, p81⟩ := HCQ6.out w8 hx8) | (go_at_call 31; (with_reducible refine (HCP.out _ hx8).mono ?_); rintro e w9 ⟨rfl, hx9⟩))
            have hx59 := hx8.trans hx9
            exact ⟨⟨j + 1, out, by simp, by omega, Lib.hid (by rw [HF.out]; exact HS.out), Lib.hid (row_ext HR6.out (hx8.trans hx9)), Lib.hid ((hx59.block _ (Rg.lt_of_heap HB6.out)).trans HB6.out), Lib.hid (HW6.out.trans hx59)⟩, by simp [iof]; omega⟩
          · have HCP : Hid (∀ wz, Ext w6 wz → Calls Try.prog 31 #[.slice oA out.length oc, .int .i64 ra] wz fun e w' => e = .returned (.bool false) ∧ Ext wz w') := Lib.hid fun wz hz => by
              have h9 := HCO.out out oA oc ra wz (row_ext HR6.out hz) HOO2.out (by have := HLN2.out; omega)
              rwa [decide_eq_false ha2] at h9
            have HS : Hid (out ++ [ra] = relS l out (ra, rb)) := Lib.hid (by rw [HO2.out, if_pos ⟨hb2, ha2⟩])
            have hel : out.length < 1000000 := by have := HLN2.out; omega
            clear hb2 ha2
            go_upto_region 9 with (first | (go_at_call 31; (with_reducible refine HC2.out.mono ?_); rintro e w8 ⟨rfl, hx8⟩; obtain ⟨p80, p81⟩ := HCQ6.out w8 hx8) | (go_at_call 31; (with_reducible refine (HCP.out _ hx8).mono ?_); rintro e w9 ⟨rfl, hx9⟩))
            have hx59 := hx8.trans hx9
            obtain ⟨p90, p91⟩ := HCQ6.out w9 hx59
            have hxb : Ext w6 (w9.alloc (.cells #[.int .i64 ra] 3)) := hx59.trans (Ext.alloc (Ext.refl _) _)
            have HX10 := Lib.hid (HW6.out.trans hxb)
            have HB10 := Lib.hid ((hxb.block _ (Rg.lt_of_heap HB6.out)).trans HB6.out)
            have HR10 := Lib.hid (row_ext HR6.out ((hx8.trans hx9).trans (Ext.alloc (Ext.refl w9) (.cells #[.int .i64 ra] 3))))
            have hsz : w.heap.size ≤ (w9.alloc (.cells #[.int .i64 ra] 3)).heap.size := HX10.out.size
            clear hxb hx8 hx9 hx59 p60 p61 p80 p81
            go_wp2_with (at_builtin; (refine append_g (cs := celI) (z := .int .i64 0) 22 3 8 Try.underlying22 (by kernel_rfl) (by rfl) (by decide) (by decide) rfl (.tmp 50) (.tmp 53) rfl w.heap.size (.slice oA out.length oc) (out) (by rfl) HR10.out w9.heap.size ra (celI_len _) (by rfl) (alloc_at w9 _) hel hsz ?_; intro g11 cap11 w11 hr11 hg11 hat11; have HX11 := Lib.hid (row_grown HX10.out HR10.out (Nat.le_refl _) hg11); have HB11 := Lib.hid (row_other HR10.out (by decide) hg11 HB10.out); have HR11 := Lib.hid hr11; clear hr11 hg11 hat11 HR10 HX10))
            exact ⟨⟨j + 1, out ++ [ra], by simp, by omega, Lib.hid (by rw [HF.out]; exact HS.out), HR11, HB11, HX11⟩, by simp [iof]; omega⟩
        · have HC2 : Hid (Calls Try.prog 31 #[.slice vA l.length vc, .int .i64 rb] w6 fun e w' => e = .returned (.bool false) ∧ Ext w6 w') := Lib.hid (by
            have h9 := HCL.out rb w6 HW6.out
            rwa [decide_eq_false hb2] at h9)
          have HS : Hid (out = relS l out (ra, rb)) := Lib.hid (by rw [HO2.out, if_neg (fun h => hb2 h.1)])
          clear hb2
          go_wp2_with (first | (go_at_call 31; (with_reducible refine HC2.out.mono ?_); rintro e w8 ⟨rfl, hx8⟩))
          have hx59 := hx8
          exact ⟨⟨j + 1, out, by simp, by omega, Lib.hid (by rw [HF.out]; exact HS.out), Lib.hid (row_ext HR6.out hx8), Lib.hid ((hx59.block _ (Rg.lt_of_heap HB6.out)).trans HB6.out), Lib.hid (HW6.out.trans hx59)⟩, by simp [iof]; omega⟩
    · obtain rfl : j = s.rs.length := by omega
      have HE : Hid (out = relF s.rs l) := Lib.hid (by rw [HO.out, List.take_length]; rfl)
      go_wp2_with (fail)
      go_ret
      exact ⟨_, rfl, HE.out ▸ HR.out, HX.out⟩
end Go.Proofs.Ytlekdhhgjhakgaa
