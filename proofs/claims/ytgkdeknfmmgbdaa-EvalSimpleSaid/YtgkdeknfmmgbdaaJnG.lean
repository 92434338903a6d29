/-
  Joined: the lemmas of this claim that other texts of it use, part 7. Nothing is asked.
-/
import Derived.Test.YtgkdeknfmmgbdaaJnF
import Derived.Laws.Rows
import Derived.Laws.CopyRow
import Derived.Laws.CopyOwn
namespace Go.Proofs.Ytgkdeknfmmgbdaa
set_option linter.unusedVariables false
set_option linter.unusedSimpArgs false
open Go.RowKit

/-- In lowest terms by absolute values, with a sign. -/
theorem lowest_norm {a b : Int} (ha : 0 ≤ a) (hb : 0 < b) (s : Bool) :
    (let g : Int := Int.gcd a b
     let x := fitZ (s && decide (0 < a / g)) (a / g)
     let y := fitZ false (b / g)
     if x.2 = true ∧ y.2 = true then ((x.1, y.1), true) else ((0, 1), false)) = normS (sgn s a) b := by
  obtain ⟨g, x, y, hg, hg0, hax, hby, hc, h1, h2⟩ := gcd_split a b hb
  have hy : 0 < y := pos_of_mul hg0 (by rw [← hby]; exact hb)
  have hx : 0 ≤ x := by
    rcases Int.lt_or_le x 0 with h | h
    · exfalso
      have := Int.mul_neg_of_pos_of_neg hg0 h
      omega
    · exact h
  simp only [hg, h1, h2]
  have hn : normS (sgn s a) b = if sgn s x < -9223372036854775808 ∨ 9223372036854775807 < sgn s x ∨ 9223372036854775807 < y then ((0, 1), false) else ((sgn s x, y), true) := by
    refine normS_of hy hb (by rw [sgn_gcd]; exact hc) ?_
    unfold sgn
    rw [hax, hby]
    cases s
    · simp only [Bool.false_eq_true, if_false]
      rw [← Int.mul_assoc, Int.mul_comm x g]
    · simp only [if_true]
      rw [Int.neg_mul, Int.neg_mul, ← Int.mul_assoc, Int.mul_comm x g]
  rw [hn]
  have ey : fitZ false y = if 9223372036854775808 ≤ y then (0, false) else (y, true) := by unfold fitZ; simp
  have ex0 : fitZ false x = if 9223372036854775808 ≤ x then (0, false) else (x, true) := by unfold fitZ; simp
  have ex1 : fitZ true x = if x ≤ 9223372036854775808 then (-x, true) else if 9223372036854775808 ≤ x then (0, false) else (x, true) := by unfold fitZ; simp
  rw [ey]
  have key : ∀ (p : Int) (f : Bool), (if f = true ∧ (if 9223372036854775808 ≤ y then ((0 : Int), false) else (y, true)).2 = true then ((p, (if 9223372036854775808 ≤ y then ((0 : Int), false) else (y, true)).1), true) else ((0, 1), false)) = if f = true ∧ y < 9223372036854775808 then ((p, y), true) else ((0, 1), false) := by
    intro p f
    by_cases k2 : 9223372036854775808 ≤ y
    · rw [if_pos k2, if_neg (by simp), if_neg (by omega)]
    · rw [if_neg k2]
      by_cases hf : f = true
      · rw [if_pos ⟨hf, rfl⟩, if_pos ⟨hf, by omega⟩]
      · rw [if_neg (fun e => hf e.1), if_neg (fun e => hf e.1)]
  rw [key]
  cases s
  · rw [Bool.false_and, ex0]
    unfold sgn
    simp only [Bool.false_eq_true, if_false]
    by_cases k1 : 9223372036854775808 ≤ x
    · rw [if_pos k1, if_neg (by simp), if_pos (by omega)]
    · rw [if_neg k1]
      by_cases k2 : y < 9223372036854775808
      · rw [if_pos ⟨rfl, k2⟩, if_neg (by omega)]
      · rw [if_neg (fun e => k2 e.2), if_pos (by omega)]
  · unfold sgn
    simp only [if_true]
    by_cases k0 : 0 < x
    · rw [show (true && decide (0 < x)) = true by simp [k0]]
      by_cases k1 : x ≤ 9223372036854775808
      · rw [show fitZ true x = (-x, true) from ex1.trans (if_pos k1)]
        by_cases k2 : y < 9223372036854775808
        · rw [if_pos ⟨rfl, k2⟩, if_neg (by omega)]
        · rw [if_neg (fun e => k2 e.2), if_pos (by omega)]
      · rw [show fitZ true x = (0, false) from ex1.trans ((if_neg k1).trans (if_pos (by omega))), if_neg (by simp), if_pos (by omega)]
    · obtain rfl : x = 0 := by omega
      rw [show (true && decide ((0 : Int) < 0)) = false by simp, show fitZ false 0 = (0, true) from rfl]
      by_cases k2 : y < 9223372036854775808
      · rw [if_pos ⟨rfl, k2⟩, if_neg (by omega)]
        rfl
      · rw [if_neg (fun e => k2 e.2), if_pos (by omega)]

set_option maxRecDepth 100000 in
set_option maxHeartbeats 1000000 in
theorem blowest_any (s t : Bool) (l m : List Int) (w : World) (v u : Value) (h : BgR w v s l) (h' : BgR w u t m) (hl : l.length ≤ 50) (hm : m.length ≤ 50) (hm0 : 0 < dv m) :
    Calls Try.prog 53 #[v, u] w fun e w' => e = .returned (.tuple #[.agg #[.int .i64 (normS (sgn (s != t) (dv l)) (dv m)).1.1, .int .i64 (normS (sgn (s != t) (dv l)) (dv m)).1.2], .bool (normS (sgn (s != t) (dv l)) (dv m)).2]) ∧ Ext w w' := by
  obtain ⟨⟨A, n0, ca⟩, rfl, hA⟩ := h
  obtain ⟨⟨B, n1, cb⟩, rfl, hB⟩ := h'
  have hN := lowest_norm (dv_nonneg hA.dg) hm0 (s != t)
  simp only at hN
  have HN := Lib.hid hN
  have HA := Lib.hid hA; have HB := Lib.hid hB; have HM0 := Lib.hid hm0
  clear hN hA hB hm0
  go_enter Try.func53, Try.ntmps53
  go_upto_region 1 with (fail)
  obtain ⟨W1, hW1⟩ : ∃ W1, W1 = ((w.alloc (.cells #[.bool s, slV (A, n0, ca)] 97)).alloc (.cells #[.bool t, slV (B, n1, cb)] 97)).alloc (.cells #[.int .i64 0, .int .i64 0] 26) := ⟨_, rfl⟩
  have hx1 : Ext w W1 := by rw [hW1]; exact Ext.alloc (Ext.alloc (Ext.alloc (Ext.refl _) _) _) _
  have hp2 : W1.heap[w.heap.size]? = some (.cells #[.bool s, slV (A, n0, ca)] 97) := by rw [hW1, Below.heap_alloc _ _ _ (by simp; omega), Below.heap_alloc _ _ _ (by simp)]; exact heap_alloc_new _ _
  have hp3 : W1.heap[w.heap.size + 1]? = some (.cells #[.bool t, slV (B, n1, cb)] 97) := by rw [hW1, Below.heap_alloc _ _ _ (by simp)]; exact block_new (by simp)
  have hp4 : W1.heap[w.heap.size + 1 + 1]? = some (.cells #[.int .i64 0, .int .i64 0] 26) := by rw [hW1]; exact block_new (by simp)
  rw [← hW1]
  obtain ⟨p2, hp2e⟩ : ∃ p2, p2 = w.heap.size := ⟨_, rfl⟩
  obtain ⟨p3, hp3e⟩ : ∃ p3, p3 = w.heap.size + 1 := ⟨_, rfl⟩
  obtain ⟨p4, hp4e⟩ : ∃ p4, p4 = w.heap.size + 1 + 1 := ⟨_, rfl⟩
  rw [← hp4e] at hp4 ⊢
  rw [← hp3e] at hp3 ⊢
  rw [← hp2e] at hp2 ⊢
  have HX1 := Lib.hid hx1
  have HC : Hid (∀ W, Ext W1 W → W.cell? ⟨p2, 0, none⟩ = some (.bool s) ∧ W.cell? ⟨p2, 1, none⟩ = some (slV (A, n0, ca)) ∧ p2 < W.heap.size ∧ W.cell? ⟨p3, 0, none⟩ = some (.bool t) ∧ W.cell? ⟨p3, 1, none⟩ = some (slV (B, n1, cb)) ∧ p3 < W.heap.size ∧ W.heap[p4]? = some (.cells #[.int .i64 0, .int .i64 0] 26)) := Lib.hid fun W hW => by
    have h2 := (hW.block _ (Rg.lt_of_heap hp2)).trans hp2
    have h3 := (hW.block _ (Rg.lt_of_heap hp3)).trans hp3
    have h4 := (hW.block _ (Rg.lt_of_heap hp4)).trans hp4
    exact ⟨(Rg.cells_of h2).1 0, (Rg.cells_of h2).1 1, Rg.lt_of_heap h2, (Rg.cells_of h3).1 0, (Rg.cells_of h3).1 1, Rg.lt_of_heap h3, h4⟩
  have HP4 := Lib.hid (show w.heap.size ≤ p4 by omega)
  clear hW1 hx1 hp2 hp3 hp4 hp2e hp3e hp4e
  have hg0 : 0 < (Int.gcd (dv l) (dv m) : Int) := by
    have : Int.gcd (dv l) (dv m) ≠ 0 := fun e => by have := (Int.gcd_eq_zero_iff.1 e).2; have := HM0.out; omega
    omega
  obtain ⟨l1, l2, l3, l4⟩ := trimL_spec l HA.out.dg
  obtain ⟨m1, m2, m3, m4⟩ := trimL_spec m HB.out.dg
  have HGC := Lib.hid (fun W (hW : Ext w W) => bcommon_any l m W _ _ (HA.out.ext hW) (HB.out.ext hW) hl hm)
  have HTL := Lib.hid (fun W (hW : Ext w W) => trim_any l W _ (HA.out.ext hW))
  have HTM := Lib.hid (fun W (hW : Ext w W) => trim_any m W _ (HB.out.ext hW))
  have HG0 := Lib.hid hg0
  have HLM := Lib.hid (show dv (trimL l) = dv l ∧ dv (trimL m) = dv m ∧ (trimL l).length ≤ 50 ∧ (trimL m).length ≤ 50 from ⟨l3, m3, by omega, by omega⟩)
  clear hg0 l1 l2 l3 l4 m1 m2 m3 m4
  generalize trimL l = tl at *
  generalize trimL m = tm at *
  obtain ⟨a0, a1, a2, b0, b1, b2, -⟩ := HC.out W1 (Ext.refl _)
  go_upto_region 2 with (go_at_call 77; (with_reducible refine (HGC.out _ HX1.out).mono ?_); rintro e w2 ⟨xg, g, rfl, hx2, hdg, htg, hvg, hlg⟩)
  have HX2 := Lib.hid hx2; have HDG := Lib.hid hdg
  have HOV := Lib.hid (fun W xa (ts : List Int) (hts : ts.length ≤ 50) (h1 : DR W xa ts) (hW : Ext w2 W) => bover_any ts g W xa xg h1 (HDG.out.ext hW) hts hlg htg (by rw [hvg]; exact HG0.out))
  have HVG := Lib.hid hvg
  clear a0 a1 a2 b0 b1 b2 hx2 hdg htg hvg hlg
  obtain ⟨a0, a1, a2, b0, b1, b2, -⟩ := HC.out w2 HX2.out
  go_upto_region 3 with (first
    | (go_at_call 79; (with_reducible refine (HTL.out _ (HX1.out.trans HX2.out)).mono ?_); rintro e w3 ⟨x3, rfl, hx3, hd3⟩; have HX3 := Lib.hid hx3; have HD3 := Lib.hid hd3; clear hx3 hd3)
    | (go_at_call 78; (with_reducible refine (HOV.out w3 x3 tl HLM.out.2.2.1 HD3.out HX3.out).mono ?_); rintro e w4 ⟨xq, xr, q, r, rfl, hx4, hdq, -, htq, -, hvq, -, hlq, -⟩))
  have HX4 := Lib.hid (HX2.out.trans (HX3.out.trans hx4)); have HX24 := Lib.hid (HX3.out.trans hx4)
  have HDQ := Lib.hid hdq
  have HQ := Lib.hid (show Tr q ∧ dv q = dv l / dv g ∧ q.length ≤ 50 from ⟨htq, by rw [hvq, HLM.out.1], by have := HLM.out.2.2.1; omega⟩)
  clear a0 a1 a2 b0 b1 b2 hx4 hdq htq hvq hlq
  obtain ⟨a0, a1, a2, b0, b1, b2, -⟩ := HC.out w4 HX4.out
  go_upto_region 4 with (first
    | (go_at_call 79; (with_reducible refine (HTM.out _ (HX1.out.trans HX4.out)).mono ?_); rintro e w5 ⟨x5, rfl, hx5, hd5⟩; have HX5 := Lib.hid hx5; have HD5 := Lib.hid hd5; clear hx5 hd5)
    | (go_at_call 78; (with_reducible refine (HOV.out w5 x5 tm HLM.out.2.2.2 HD5.out (HX24.out.trans HX5.out)).mono ?_); rintro e w6 ⟨yq, yr, q2, r2, rfl, hx6, hdq2, -, htq2, -, hvq2, -, hlq2, -⟩))
  have HX6 := Lib.hid (HX4.out.trans (HX5.out.trans hx6))
  have HDQ6 := Lib.hid (HDQ.out.ext (HX5.out.trans hx6)); have HDQ2 := Lib.hid hdq2
  have HQ2 := Lib.hid (show Tr q2 ∧ dv q2 = dv m / dv g ∧ q2.length ≤ 50 from ⟨htq2, by rw [hvq2, HLM.out.2.1], by have := HLM.out.2.2.2; omega⟩)
  clear a0 a1 a2 b0 b1 b2 hx6 hdq2 htq2 hvq2 hlq2 HDQ HX24 HOV HTL HTM HGC
  obtain ⟨a0, a1, a2, b0, b1, b2, -⟩ := HC.out w6 HX6.out
  obtain ⟨qa, qc, rfl⟩ := HDQ6.out.form
  obtain ⟨ya, yc, rfl⟩ := HDQ2.out.form
  obtain ⟨sn, hsn⟩ : ∃ sn, (s != t) = sn := ⟨_, rfl⟩
  rw [hsn] at HN
  have HPOS : Hid ((decide (0 < q.length)) = decide (0 < dv q)) := Lib.hid (by
    rw [Bool.eq_iff_iff, decide_eq_true_eq, decide_eq_true_eq]
    have hnn := dv_nonneg HDQ6.out.dg
    constructor
    · intro h
      rcases Int.lt_or_le 0 (dv q) with h2 | h2
      · exact h2
      · exfalso
        rw [dv_zero HDQ6.out.dg HQ.out.1 (by omega)] at h
        simp at h
    · intro h
      rcases Nat.eq_zero_or_pos q.length with h2 | h2
      · rw [List.length_eq_zero_iff.1 h2] at h
        simp [dv] at h
      · exact h2)
  have HF1 := Lib.hid (fun (b : Bool) => fit_any b q w6 (.agg #[.bool b, .slice qa q.length qc]) ⟨(qa, q.length, qc), rfl, HDQ6.out⟩)
  have HF2 := Lib.hid (fun W (hW : Ext w6 W) => fit_any false q2 W (.agg #[.bool false, .slice ya q2.length yc]) ⟨(ya, q2.length, yc), rfl, HDQ2.out.ext hW⟩)
  have HGE : Hid ((Int.gcd (dv l) (dv m) : Int) = dv g) := Lib.hid HVG.out.symm
  rw [HGE.out, ← HQ.out.2.1, ← HQ2.out.2.1, ← HPOS.out] at HN
  by_cases hst : s = t
  · subst hst
    have hsf : sn = false := by rw [← hsn]; simp
    subst hsf
    have HSN := Lib.hid hsn
    rw [Bool.false_and] at HN
    go_upto_region 5 with (go_at_call 80; (with_reducible refine (HF1.out _).mono ?_); rintro e w7 ⟨rfl, hx7⟩)
    obtain ⟨⟨n1, o1⟩, hf1⟩ : ∃ f : Int × Bool, f = fitZ false (dv q) := ⟨_, rfl⟩
    rw [← hf1]
    have HF1E := Lib.hid hf1
    clear hf1
    have HX7 := Lib.hid hx7
    clear a0 a1 a2 b0 b1 b2 hx7
    obtain ⟨⟨n2, o2⟩, hf2⟩ : ∃ f : Int × Bool, f = fitZ false (dv q2) := ⟨_, rfl⟩
    have HF2W := Lib.hid (HF2.out w7 HX7.out)
    rw [← hf2] at HF2W HN
    rw [← HF1E.out] at HN
    clear hf2 HF1 HF2 HF1E
    simp only at HF2W HN ⊢
    have hx67 : Ext w w7 := HX1.out.trans (HX6.out.trans HX7.out)
    have hp4 := HP4.out
    cases o1
    · skip
      have HNF := Lib.hid (HN.out.symm.trans (if_neg (by simp)))
      clear HN
      go_wp2_with (first
        | (go_at_call 80; (with_reducible refine HF2W.out.mono ?_); rintro e w8 ⟨rfl, hx8⟩)
        | (go_at_call 29; (with_reducible refine (refOf_any _ _).mono ?_); rintro e w9 ⟨rfl, hx9⟩; obtain ⟨hc9, hf9, hl9⟩ := Rg.cells_of (HC.out w9 (HX6.out.trans (HX7.out.trans (hx8.trans hx9)))).2.2.2.2.2.2))
      have hxx := hx67.trans (hx8.trans hx9)
      exact bodyPost_ret (v := rbv ((0, 1), false)) (by simp [results, Try.results53, go_sem, hc9, hf9]) rfl ⟨by rw [HSN.out, HNF.out], (by with_reducible repeat (first | exact Ext.refl _ | assumption | apply Ext.drewN | apply Ext.drew | apply Ext.alloc | (refine Ext.setCell ?_ (by simp <;> omega) _) | (refine Ext.trans ?_ (by assumption))))⟩
    · cases o2
      · skip
        have HNF := Lib.hid (HN.out.symm.trans (if_neg (by simp)))
        clear HN
        go_wp2_with (first
          | (go_at_call 80; (with_reducible refine HF2W.out.mono ?_); rintro e w8 ⟨rfl, hx8⟩)
          | (go_at_call 29; (with_reducible refine (refOf_any _ _).mono ?_); rintro e w9 ⟨rfl, hx9⟩; obtain ⟨hc9, hf9, hl9⟩ := Rg.cells_of (HC.out w9 (HX6.out.trans (HX7.out.trans (hx8.trans hx9)))).2.2.2.2.2.2))
        have hxx := hx67.trans (hx8.trans hx9)
        exact bodyPost_ret (v := rbv ((0, 1), false)) (by simp [results, Try.results53, go_sem, hc9, hf9]) rfl ⟨by rw [HSN.out, HNF.out], (by with_reducible repeat (first | exact Ext.refl _ | assumption | apply Ext.drewN | apply Ext.drew | apply Ext.alloc | (refine Ext.setCell ?_ (by simp <;> omega) _) | (refine Ext.trans ?_ (by assumption))))⟩
      · have HNF := Lib.hid (HN.out.symm.trans (if_pos (by simp)))
        clear HN
        go_wp2_with (go_at_call 80; (with_reducible refine HF2W.out.mono ?_); rintro e w8 ⟨rfl, hx8⟩; obtain ⟨hc9, hf9, hl9⟩ := Rg.cells_of (HC.out w8 (HX6.out.trans (HX7.out.trans hx8))).2.2.2.2.2.2)
        have hxx := hx67.trans hx8
        exact bodyPost_ret (v := rbv ((n1, n2), true)) (by simp [results, Try.results53, go_sem, hc9, hf9]) rfl ⟨by rw [HSN.out, HNF.out], (by with_reducible repeat (first | exact Ext.refl _ | assumption | apply Ext.drewN | apply Ext.drew | apply Ext.alloc | (refine Ext.setCell ?_ (by simp <;> omega) _) | (refine Ext.trans ?_ (by assumption))))⟩
  · have hb : (s == t) = false := by simpa using hst
    have hsf : sn = true := by rw [← hsn]; simp [bne, hb]
    subst hsf
    have HSN := Lib.hid hsn
    rw [Bool.true_and] at HN
    go_upto_region 5 with (go_at_call 80; (with_reducible refine (HF1.out _).mono ?_); rintro e w7 ⟨rfl, hx7⟩)
    obtain ⟨⟨n1, o1⟩, hf1⟩ : ∃ f : Int × Bool, f = fitZ (decide (0 < q.length)) (dv q) := ⟨_, rfl⟩
    rw [← hf1]
    have HF1E := Lib.hid hf1
    clear hf1
    have HX7 := Lib.hid hx7
    clear a0 a1 a2 b0 b1 b2 hx7
    obtain ⟨⟨n2, o2⟩, hf2⟩ : ∃ f : Int × Bool, f = fitZ false (dv q2) := ⟨_, rfl⟩
    have HF2W := Lib.hid (HF2.out w7 HX7.out)
    rw [← hf2] at HF2W HN
    rw [← HF1E.out] at HN
    clear hf2 HF1 HF2 HF1E
    simp only at HF2W HN ⊢
    have hx67 : Ext w w7 := HX1.out.trans (HX6.out.trans HX7.out)
    have hp4 := HP4.out
    cases o1
    · skip
      have HNF := Lib.hid (HN.out.symm.trans (if_neg (by simp)))
      clear HN
      go_wp2_with (first
        | (go_at_call 80; (with_reducible refine HF2W.out.mono ?_); rintro e w8 ⟨rfl, hx8⟩)
        | (go_at_call 29; (with_reducible refine (refOf_any _ _).mono ?_); rintro e w9 ⟨rfl, hx9⟩; obtain ⟨hc9, hf9, hl9⟩ := Rg.cells_of (HC.out w9 (HX6.out.trans (HX7.out.trans (hx8.trans hx9)))).2.2.2.2.2.2))
      have hxx := hx67.trans (hx8.trans hx9)
      exact bodyPost_ret (v := rbv ((0, 1), false)) (by simp [results, Try.results53, go_sem, hc9, hf9]) rfl ⟨by rw [HSN.out, HNF.out], (by with_reducible repeat (first | exact Ext.refl _ | assumption | apply Ext.drewN | apply Ext.drew | apply Ext.alloc | (refine Ext.setCell ?_ (by simp <;> omega) _) | (refine Ext.trans ?_ (by assumption))))⟩
    · cases o2
      · skip
        have HNF := Lib.hid (HN.out.symm.trans (if_neg (by simp)))
        clear HN
        go_wp2_with (first
          | (go_at_call 80; (with_reducible refine HF2W.out.mono ?_); rintro e w8 ⟨rfl, hx8⟩)
          | (go_at_call 29; (with_reducible refine (refOf_any _ _).mono ?_); rintro e w9 ⟨rfl, hx9⟩; obtain ⟨hc9, hf9, hl9⟩ := Rg.cells_of (HC.out w9 (HX6.out.trans (HX7.out.trans (hx8.trans hx9)))).2.2.2.2.2.2))
        have hxx := hx67.trans (hx8.trans hx9)
        exact bodyPost_ret (v := rbv ((0, 1), false)) (by simp [results, Try.results53, go_sem, hc9, hf9]) rfl ⟨by rw [HSN.out, HNF.out], (by with_reducible repeat (first | exact Ext.refl _ | assumption | apply Ext.drewN | apply Ext.drew | apply Ext.alloc | (refine Ext.setCell ?_ (by simp <;> omega) _) | (refine Ext.trans ?_ (by assumption))))⟩
      · have HNF := Lib.hid (HN.out.symm.trans (if_pos (by simp)))
        clear HN
        go_wp2_with (go_at_call 80; (with_reducible refine HF2W.out.mono ?_); rintro e w8 ⟨rfl, hx8⟩; obtain ⟨hc9, hf9, hl9⟩ := Rg.cells_of (HC.out w8 (HX6.out.trans (HX7.out.trans hx8))).2.2.2.2.2.2)
        have hxx := hx67.trans hx8
        exact bodyPost_ret (v := rbv ((n1, n2), true)) (by simp [results, Try.results53, go_sem, hc9, hf9]) rfl ⟨by rw [HSN.out, HNF.out], (by with_reducible repeat (first | exact Ext.refl _ | assumption | apply Ext.drewN | apply Ext.drew | apply Ext.alloc | (refine Ext.setCell ?_ (by simp <;> omega) _) | (refine Ext.trans ?_ (by assumption))))⟩
end Go.Proofs.Ytgkdeknfmmgbdaa

namespace Go.Proofs.Ytgkdeknfmmgbdaa
set_option linter.unusedVariables false
set_option linter.unusedSimpArgs false
open Go.RowKit

theorem quick_p (n d : Int) (hn : -4000000000000000000 ≤ n ∧ n ≤ 4000000000000000000) (hd : 1 ≤ d ∧ d ≤ 4000000000000000000) (w : World) : Calls Try.prog 52 #[.int .i64 n, .int .i64 d] w fun e w' => e = .returned (rv (quickZ n d)) ∧ Ext w w' := by
  obtain ⟨n1, n2⟩ := hn
  obtain ⟨d1, d2⟩ := hd
  have hG : 1 ≤ Int.gcd n d := by
    have := Int.gcd_pos_of_ne_zero_right n (show d ≠ 0 by omega); omega
  have hGd : (Int.gcd n d : Int) ≤ d := Int.le_of_dvd (by omega) (Int.gcd_dvd_right _ _)
  have hM : max n (-n) = (n.natAbs : Int) := by rw [Int.max_def]; split <;> omega
  have HG := Lib.hid (show Nat.gcd n.natAbs d.natAbs = Int.gcd n d from rfl)
  have HQ := Lib.hid (show quickZ n d = (n.tdiv (Int.gcd n d : Int), d.tdiv (Int.gcd n d : Int)) from rfl)
  generalize Int.gcd n d = G at *
  have HM := Lib.hid hM
  clear hM
  go_enter Try.func52, Try.ntmps52
  go_wp2
  rw [HM.out]
  go_loop [5, 6] (fun x y => ∃ p q : Nat, p ≤ 4000000000000000000 ∧ q ≤ 4000000000000000000 ∧ x = .int .i64 p ∧ y = .int .i64 q ∧ Hid (Nat.gcd p q = G)) (fun _ y => (intOf y).toNat)
  case atStart => exact ⟨n.natAbs, d.natAbs, by omega, by omega, rfl, by rw [show d = (d.natAbs : Int) by omega]; rfl, HG⟩
  case round =>
    obtain ⟨p, q, hp, hq, rfl, rfl, hg⟩ := hrel
    rcases Nat.eq_zero_or_pos q with h0 | hlt
    · subst h0
      have hpG : p = G := by have := hg.out; simpa using this
      subst hpG
      have hne : ¬ p = 0 := by omega
      have e1 : IntKind.i64.wrap (n.tdiv (p : Int)) = n.tdiv (p : Int) := by
        have h3 := Int.natAbs_tdiv_le_natAbs n (p : Int)
        rw [IntKind.wrap_i64]; omega
      have e2 : IntKind.i64.wrap (d.tdiv (p : Int)) = d.tdiv (p : Int) := by
        have h3 := Int.natAbs_tdiv_le_natAbs d (p : Int)
        rw [IntKind.wrap_i64]; omega
      have E1 := Lib.hid e1; have E2 := Lib.hid e2
      have E3 := Lib.hid (show d / (p : Int) = d.tdiv (p : Int) from (Int.tdiv_eq_ediv_of_nonneg (by omega)).symm)
      clear e1 e2
      go_wp2_with (fail)
      refine Rr.wp_region [(0, .y), (1, .y), (2, .y), (3, .y), (4, .y), (5, .y), (6, .y)] (fun _ => (.cells #[] 29, Rg.ptr)) (by kernel_rfl) (by kernel_rfl) ?_
      (refine Rr.wr_y (by simp only [List.getElem?_toArray, List.getElem?_cons_succ, List.getElem?_cons_zero]; rfl) (by rfl) ?_
       apply Exists.intro
       refine ⟨fun wz hw _ => ?_, ?_⟩
       · have hcz := hw.cells.1
         go_simp
         (with_reducible exact Rg.up_value)
       simp only [Act.put, List.setIfInBounds_toArray, List.set_cons_zero, List.set_cons_succ])
      (refine Rr.wr_y (by simp only [List.getElem?_toArray, List.getElem?_cons_succ, List.getElem?_cons_zero]; rfl) (by rfl) ?_
       apply Exists.intro
       refine ⟨fun wz hw _ => ?_, ?_⟩
       · have hcz := hw.cells.1
         go_simp
         (with_reducible exact Rg.up_value)
       simp only [Act.put, List.setIfInBounds_toArray, List.set_cons_zero, List.set_cons_succ])
      (refine Rr.wr_y (by simp only [List.getElem?_toArray, List.getElem?_cons_succ, List.getElem?_cons_zero]; rfl) (by rfl) ?_
       apply Exists.intro
       refine ⟨fun wz hw _ => ?_, ?_⟩
       · have hcz := hw.cells.1
         go_simp
         (with_reducible exact Rg.up_value)
       simp only [Act.put, List.setIfInBounds_toArray, List.set_cons_zero, List.set_cons_succ])
      (refine Rr.wr_y (by simp only [List.getElem?_toArray, List.getElem?_cons_succ, List.getElem?_cons_zero]; rfl) (by rfl) ?_
       apply Exists.intro
       refine ⟨fun wz hw _ => ?_, ?_⟩
       · have hcz := hw.cells.1
         go_simp
         (with_reducible exact Rg.up_value)
       simp only [Act.put, List.setIfInBounds_toArray, List.set_cons_zero, List.set_cons_succ])
      (refine Rr.wr_y (by simp only [List.getElem?_toArray, List.getElem?_cons_succ, List.getElem?_cons_zero]; rfl) (by rfl) ?_
       apply Exists.intro
       refine ⟨fun wz hw _ => ?_, ?_⟩
       · have hcz := hw.cells.1
         go_simp
         (with_reducible exact Rg.up_value)
       simp only [Act.put, List.setIfInBounds_toArray, List.set_cons_zero, List.set_cons_succ])
      (refine Rr.wr_y (by simp only [List.getElem?_toArray, List.getElem?_cons_succ, List.getElem?_cons_zero]; rfl) (by rfl) ?_
       apply Exists.intro
       refine ⟨fun wz hw _ => ?_, ?_⟩
       · have hcz := hw.cells.1
         go_simp
         (with_reducible exact Rg.up_value)
       simp only [Act.put, List.setIfInBounds_toArray, List.set_cons_zero, List.set_cons_succ])
      (refine Rr.wr_y (by simp only [List.getElem?_toArray, List.getElem?_cons_succ, List.getElem?_cons_zero]; rfl) (by rfl) ?_
       apply Exists.intro
       refine ⟨fun wz hw _ => ?_, ?_⟩
       · have hcz := hw.cells.1
         go_simp
         (with_reducible exact Rg.up_value)
       simp only [Act.put, List.setIfInBounds_toArray, List.set_cons_zero, List.set_cons_succ])
      refine Rr.wr_nil ?_
      intro wy hy hh
      simp only [List.length_cons, List.length_nil, List.drop_succ_cons, List.drop_zero, Nat.reduceAdd]
      obtain ⟨hcy, hfy⟩ := hy.cells
      clear hh
      go_wp2
      rw [E3.out]
      exact bodyPost_ret (v := rv (n.tdiv (p : Int), d.tdiv (p : Int))) (by simp [results, Try.results52, go_sem, hcy]) rfl ⟨by rw [HQ.out], (by with_reducible repeat (first | exact Ext.refl _ | assumption | apply Ext.drewN | apply Ext.drew | apply Ext.alloc | (refine Ext.setCell ?_ (by simp <;> omega) _) | (refine Ext.trans ?_ (by assumption))))⟩
    · have hne : ¬ q = 0 := by omega
      have hl := Nat.mod_lt p hlt
      go_wp2
      go_round
      case rel => exact ⟨q, p % q, hq, by omega, rfl, by simp, Lib.hid (by rw [← hg.out, gcd_step p q hlt])⟩
      case measure => simp [intOf]; omega

theorem quick_m (n0 d0 : Int) (hn : -4000000000000000000 ≤ n0 ∧ n0 ≤ 4000000000000000000) (hd : -4000000000000000000 ≤ d0 ∧ d0 ≤ -1) (w : World) : Calls Try.prog 52 #[.int .i64 n0, .int .i64 d0] w fun e w' => e = .returned (rv (quickZ (-n0) (-d0))) ∧ Ext w w' := by
  have kn : IntKind.i64.wrap (-n0) = -n0 := by rw [IntKind.wrap_i64]; omega
  have kd : IntKind.i64.wrap (-d0) = -d0 := by rw [IntKind.wrap_i64]; omega
  obtain ⟨n, hnn⟩ : ∃ n, n = -n0 := ⟨_, rfl⟩
  obtain ⟨d, hdd⟩ : ∃ d, d = -d0 := ⟨_, rfl⟩
  have hd0 : d0 < 0 := by omega
  have n1 : -4000000000000000000 ≤ n := by omega
  have n2 : n ≤ 4000000000000000000 := by omega
  have d1 : 1 ≤ d := by omega
  have d2 : d ≤ 4000000000000000000 := by omega
  rw [← hnn] at kn ⊢
  rw [← hdd] at kd ⊢
  have hnn' : -n0 = n := hnn.symm
  have hdd' : -d0 = d := hdd.symm
  clear hnn hdd hn hd
  have hG : 1 ≤ Int.gcd n d := by
    have := Int.gcd_pos_of_ne_zero_right n (show d ≠ 0 by omega); omega
  have hGd : (Int.gcd n d : Int) ≤ d := Int.le_of_dvd (by omega) (Int.gcd_dvd_right _ _)
  have hM : max n (-n) = (n.natAbs : Int) := by rw [Int.max_def]; split <;> omega
  have HG := Lib.hid (show Nat.gcd n.natAbs d.natAbs = Int.gcd n d from rfl)
  have HQ := Lib.hid (show quickZ n d = (n.tdiv (Int.gcd n d : Int), d.tdiv (Int.gcd n d : Int)) from rfl)
  generalize Int.gcd n d = G at *
  have HM := Lib.hid hM
  clear hM
  go_enter Try.func52, Try.ntmps52
  go_wp2
  rw [HM.out]
  go_loop [5, 6] (fun x y => ∃ p q : Nat, p ≤ 4000000000000000000 ∧ q ≤ 4000000000000000000 ∧ x = .int .i64 p ∧ y = .int .i64 q ∧ Hid (Nat.gcd p q = G)) (fun _ y => (intOf y).toNat)
  case atStart => exact ⟨n.natAbs, d.natAbs, by omega, by omega, rfl, by rw [show d = (d.natAbs : Int) by omega]; rfl, HG⟩
  case round =>
    obtain ⟨p, q, hp, hq, rfl, rfl, hg⟩ := hrel
    rcases Nat.eq_zero_or_pos q with h0 | hlt
    · subst h0
      have hpG : p = G := by have := hg.out; simpa using this
      subst hpG
      have hne : ¬ p = 0 := by omega
      have e1 : IntKind.i64.wrap (n.tdiv (p : Int)) = n.tdiv (p : Int) := by
        have h3 := Int.natAbs_tdiv_le_natAbs n (p : Int)
        rw [IntKind.wrap_i64]; omega
      have e2 : IntKind.i64.wrap (d.tdiv (p : Int)) = d.tdiv (p : Int) := by
        have h3 := Int.natAbs_tdiv_le_natAbs d (p : Int)
        rw [IntKind.wrap_i64]; omega
      have E1 := Lib.hid e1; have E2 := Lib.hid e2
      have E3 := Lib.hid (show d / (p : Int) = d.tdiv (p : Int) from (Int.tdiv_eq_ediv_of_nonneg (by omega)).symm)
      clear e1 e2
      go_wp2_with (fail)
      refine Rr.wp_region [(0, .y), (1, .y), (2, .y), (3, .y), (4, .y), (5, .y), (6, .y)] (fun _ => (.cells #[] 29, Rg.ptr)) (by kernel_rfl) (by kernel_rfl) ?_
      (refine Rr.wr_y (by simp only [List.getElem?_toArray, List.getElem?_cons_succ, List.getElem?_cons_zero]; rfl) (by rfl) ?_
       apply Exists.intro
       refine ⟨fun wz hw _ => ?_, ?_⟩
       · have hcz := hw.cells.1
         go_simp
         (with_reducible exact Rg.up_value)
       simp only [Act.put, List.setIfInBounds_toArray, List.set_cons_zero, List.set_cons_succ])
      (refine Rr.wr_y (by simp only [List.getElem?_toArray, List.getElem?_cons_succ, List.getElem?_cons_zero]; rfl) (by rfl) ?_
       apply Exists.intro
       refine ⟨fun wz hw _ => ?_, ?_⟩
       · have hcz := hw.cells.1
         go_simp
         (with_reducible exact Rg.up_value)
       simp only [Act.put, List.setIfInBounds_toArray, List.set_cons_zero, List.set_cons_succ])
      (refine Rr.wr_y (by simp only [List.getElem?_toArray, List.getElem?_cons_succ, List.getElem?_cons_zero]; rfl) (by rfl) ?_
       apply Exists.intro
       refine ⟨fun wz hw _ => ?_, ?_⟩
       · have hcz := hw.cells.1
         go_simp
         (with_reducible exact Rg.up_value)
       simp only [Act.put, List.setIfInBounds_toArray, List.set_cons_zero, List.set_cons_succ])
      (refine Rr.wr_y (by simp only [List.getElem?_toArray, List.getElem?_cons_succ, List.getElem?_cons_zero]; rfl) (by rfl) ?_
       apply Exists.intro
       refine ⟨fun wz hw _ => ?_, ?_⟩
       · have hcz := hw.cells.1
         go_simp
         (with_reducible exact Rg.up_value)
       simp only [Act.put, List.setIfInBounds_toArray, List.set_cons_zero, List.set_cons_succ])
      (refine Rr.wr_y (by simp only [List.getElem?_toArray, List.getElem?_cons_succ, List.getElem?_cons_zero]; rfl) (by rfl) ?_
       apply Exists.intro
       refine ⟨fun wz hw _ => ?_, ?_⟩
       · have hcz := hw.cells.1
         go_simp
         (with_reducible exact Rg.up_value)
       simp only [Act.put, List.setIfInBounds_toArray, List.set_cons_zero, List.set_cons_succ])
      (refine Rr.wr_y (by simp only [List.getElem?_toArray, List.getElem?_cons_succ, List.getElem?_cons_zero]; rfl) (by rfl) ?_
       apply Exists.intro
       refine ⟨fun wz hw _ => ?_, ?_⟩
       · have hcz := hw.cells.1
         go_simp
         (with_reducible exact Rg.up_value)
       simp only [Act.put, List.setIfInBounds_toArray, List.set_cons_zero, List.set_cons_succ])
      (refine Rr.wr_y (by simp only [List.getElem?_toArray, List.getElem?_cons_succ, List.getElem?_cons_zero]; rfl) (by rfl) ?_
       apply Exists.intro
       refine ⟨fun wz hw _ => ?_, ?_⟩
       · have hcz := hw.cells.1
         go_simp
         (with_reducible exact Rg.up_value)
       simp only [Act.put, List.setIfInBounds_toArray, List.set_cons_zero, List.set_cons_succ])
      refine Rr.wr_nil ?_
      intro wy hy hh
      simp only [List.length_cons, List.length_nil, List.drop_succ_cons, List.drop_zero, Nat.reduceAdd]
      obtain ⟨hcy, hfy⟩ := hy.cells
      clear hh
      go_wp2
      rw [E3.out]
      exact bodyPost_ret (v := rv (n.tdiv (p : Int), d.tdiv (p : Int))) (by simp [results, Try.results52, go_sem, hcy]) rfl ⟨by rw [HQ.out], (by with_reducible repeat (first | exact Ext.refl _ | assumption | apply Ext.drewN | apply Ext.drew | apply Ext.alloc | (refine Ext.setCell ?_ (by simp <;> omega) _) | (refine Ext.trans ?_ (by assumption))))⟩
    · have hne : ¬ q = 0 := by omega
      have hl := Nat.mod_lt p hlt
      go_wp2
      go_round
      case rel => exact ⟨q, p % q, hq, by omega, rfl, by simp, Lib.hid (by rw [← hg.out, gcd_step p q hlt])⟩
      case measure => simp [intOf]; omega


end Go.Proofs.Ytgkdeknfmmgbdaa

namespace Go.Proofs.Ytgkdeknfmmgbdaa
set_option linter.unusedVariables false
set_option linter.unusedSimpArgs false
open Go.RowKit

theorem up_row {ρ : Operand → Value} {d : Option Tmp} {x : Operand} {ty : TypeId} {ps : String} {af : Array Edge} {gd : Option (Nat × Bool)} {w : World} {g : Nat} {T t : TypeId} {cs : Array Value} {fs : Array Field} {fr : Nat × Nat}
    (hx : ρ x = .pointer (some ⟨g, 0, none⟩)) (hg : w.heap[g]? = some (.cells cs t fr))
    (hu : Try.prog.underlying T = some (.struct fs)) (hi : (Try.prog.info? T).map (·.size) = some cs.size) :
    Rg.up Try.prog w (.agg cs) ((execOp ρ { dst := d, op := .load T x, type := ty, pos := ps, after := af, guard := gd }).run Try.prog w) := by
  have h := run_loadVar_row (P := Try.prog) w g t T cs _ (.struct fs) hg hu rfl hi
  unfold execOp
  simp only [hx, Instr.loadAt, Instr.sureAddr, Sem.run_bind, Sem.run_pure, Result.andThen_ok, h]
  exact Rg.up_value
theorem wpList_store_row {ops : Array Oper} {rest : List Oper} {o : Oper} {a : Act} {w : World} {Q : Exit → Act → World → Prop} (hgd : o.guard = none) (T : TypeId) (x y : Operand) (ho : o.op = .store T x y)
    (g : Nat) (hx : a.eval x = .pointer (some ⟨g, 0, none⟩)) (cs : Array Value) (hy : a.eval y = .agg cs) (old : Array Value) (t : TypeId) (hg : w.heap[g]? = some (.cells old t (0, 0))) (hl : old.size = cs.size)
    (hi : (Try.prog.info? T).map (·.size) = some cs.size) (h1 : ∀ v ∈ cs.toList, v.oneCell' = true)
    (h : wpList Try.prog ops Q rest (a.put o.dst undef) (w.setRow g cs)) : wpList Try.prog ops Q (o :: rest) a w := by
  refine wpList_plain hgd fun K hK => ?_
  have hr := run_storeCells_at (P := Try.prog) g 0 t cs.toList 0 old w hg (by simp; omega) h1
  have he : (old.toList.take (0 + 0) ++ cs.toList ++ old.toList.drop (0 + 0 + cs.toList.length)).toArray = cs := by
    rw [List.drop_eq_nil_of_le (by simp; omega)]; simp
  rw [he] at hr
  unfold Oper.wp execOp
  have hs : (Go.sizeOf T).run Try.prog w = .ok cs.size w := by
    cases hq : Try.prog.info? T with
    | none => simp [hq] at hi
    | some i =>
      have hs : i.size = cs.size := by simpa [hq] using hi
      simp [sizeOf, typeInfo, hq, hs]
  have hst : (storeVar T ⟨g, 0, none⟩ (.agg cs)).run Try.prog w = .ok () (w.setRow g cs) := by
    unfold storeVar
    simp only [Value.cells, Sem.run_bind, hs, Result.andThen_ok, ne_eq, not_true_eq_false, if_false]
    exact hr
  simp only [ho, hx, hy, Instr.storeAt, Instr.sureAddr, Sem.run_bind, Sem.run_pure, Result.andThen_ok, hst]
  exact hK _ _ h
end Go.Proofs.Ytgkdeknfmmgbdaa

namespace Go.Proofs.Ytgkdeknfmmgbdaa
set_option linter.unusedVariables false
set_option linter.unusedSimpArgs false
open Go.RowKit

theorem quick_norm {n d : Int} (hd : 0 < d) (hn : -4000000000000000000 ≤ n ∧ n ≤ 4000000000000000000) (hd2 : d ≤ 4000000000000000000) : normS n d = (quickZ n d, true) := by
  obtain ⟨g, x, y, hg, hg0, hax, hby, hc, h1, h2⟩ := gcd_split n d hd
  have e1 : n.tdiv g = x := by rw [hax]; exact Int.mul_tdiv_cancel_left _ (by omega)
  have e2 : d.tdiv g = y := by rw [hby]; exact Int.mul_tdiv_cancel_left _ (by omega)
  have hq : quickZ n d = (x, y) := by unfold quickZ; rw [hg, e1, e2]
  have b1 : x.natAbs ≤ n.natAbs := by rw [← e1]; exact Int.natAbs_tdiv_le_natAbs n g
  have b2 : y.natAbs ≤ d.natAbs := by rw [← e2]; exact Int.natAbs_tdiv_le_natAbs d g
  have hy : 0 < y := pos_of_mul hg0 (by rw [← hby]; exact hd)
  rw [hq, normS_of hy hd hc (by rw [hax, hby, ← Int.mul_assoc, Int.mul_comm x g]), if_neg (by omega)]
/-- A number of few digits. -/
def smB (n : Int) : Bool := decide (-1000000000 < n) && decide (n < 1000000000)
theorem smB_iff {n : Int} : smB n = true ↔ -1000000000 < n ∧ n < 1000000000 := by unfold smB; simp
theorem small_c (n : Int) (w : World) : Calls Try.prog 67 #[.int .i64 n] w fun e w' => e = .returned (.bool (smB n)) ∧ w' = w := by
  by_cases h1 : -1000000000 < n
  · by_cases h2 : n < 1000000000
    · have hs : smB n = true := by unfold smB; simp [h1, h2]
      have HS := Lib.hid hs
      clear hs
      go_enter Try.func67, Try.ntmps67
      go_wp2
      go_ret
      exact ⟨by rw [HS.out]; rfl, rfl⟩
    · have hs : smB n = false := by unfold smB; simp [h2]
      have HS := Lib.hid hs
      clear hs
      go_enter Try.func67, Try.ntmps67
      go_wp2
      go_ret
      exact ⟨by rw [HS.out]; rfl, rfl⟩
  · have hs : smB n = false := by unfold smB; simp [h1]
    have HS := Lib.hid hs
    clear hs
    go_enter Try.func67, Try.ntmps67
    go_wp2
    go_ret
    exact ⟨by rw [HS.out]; rfl, rfl⟩
theorem small_b (n : Int) (w : World) : Calls Try.prog 67 #[.int .i64 n] w fun e w' => e = .returned (.bool (smB n)) ∧ Ext w w' := (small_c n w).mono fun _ _ ⟨he, hw⟩ => ⟨he, by rw [hw]; exact Ext.refl _⟩
/-- The number that the digits of an int spell. -/
theorem of_val {a : Int} (h1 : -9223372036854775808 ≤ a) (h2 : a ≤ 9223372036854775807) : Dg (ofL a.natAbs) ∧ Tr (ofL a.natAbs) ∧ dv (ofL a.natAbs) = a.natAbs ∧ (ofL a.natAbs).length ≤ 4 ∧ sgn (decide (a < 0)) (dv (ofL a.natAbs)) = a := by
  obtain ⟨k1, k2, k3, k4⟩ := ofL_spec a.natAbs (by omega) (by omega)
  refine ⟨k1, k2, k3, k4, ?_⟩
  rw [k3]
  unfold sgn
  by_cases h : a < 0
  · rw [decide_eq_true h, if_pos rfl]; omega
  · rw [decide_eq_false h, if_neg (by simp)]; omega
theorem normS_iff {n d : Int} (hd : 0 < d) (h1 : -9223372036854775808 ≤ n) (h2 : n ≤ 9223372036854775807) (hd2 : d ≤ 9223372036854775807) : (normS n d = ((n, d), true)) ↔ Int.gcd n d = 1 := by
  constructor
  · intro h
    exact ((rightB_iff n d).1 (normS_right hd h).1).2
  · intro h
    rw [normS_of hd hd h rfl, if_neg (by omega)]

theorem hold0 {f : World → Prop} {fs : List (World → Prop)} {w : World} (h : Rr.Holds (f :: fs) w) : f w := h _ List.mem_cons_self
theorem hold1 {f g : World → Prop} {fs : List (World → Prop)} {w : World} (h : Rr.Holds (g :: f :: fs) w) : f w := h _ (List.mem_cons_of_mem _ List.mem_cons_self)
set_option maxRecDepth 100000 in
set_option maxHeartbeats 1000000 in
theorem rRight_any (n d : Int) (h1 : -9223372036854775808 ≤ n) (h2 : n ≤ 9223372036854775807) (h3 : -9223372036854775808 ≤ d) (h4 : d ≤ 9223372036854775807) (w : World) :
    Calls Try.prog 76 #[.agg #[.int .i64 n, .int .i64 d]] w fun e w' => e = .returned (.bool (rightB n d)) ∧ Ext w w' := by
  have hC : (w.alloc (.cells #[.int .i64 n, .int .i64 d] 26)).heap[w.heap.size]? = some (.cells #[.int .i64 n, .int .i64 d] 26) := block_new rfl
  obtain ⟨hc, hf, hlt⟩ := Rg.cells_of hC
  have c0 := hc 0
  have c1 := hc 1
  have hx1 : Ext w (w.alloc (.cells #[.int .i64 n, .int .i64 d] 26)) := Ext.alloc (Ext.refl _) _
  have HC := Lib.hid hC; have HX1 := Lib.hid hx1
  clear hC hc hf hx1
  by_cases hd : d < 1
  · have HR : Hid (rightB n d = false) := Lib.hid (by unfold rightB; rw [decide_eq_false (by omega)]; rfl)
    go_enter Try.func76, Try.ntmps76
    go_wp2
    go_ret
    exact ⟨by rw [HR.out]; rfl, HX1.out⟩
  · have hd1 : 0 < d := by omega
    have HR := Lib.hid (rightB_iff n d)
    have HS1 := Lib.hid (fun W => small_b n W)
    have HS2 := Lib.hid (fun W => small_b d W)
    by_cases hs : smB n = true ∧ smB d = true
    · have hsn := smB_iff.1 hs.1
      have hsd := smB_iff.1 hs.2
      have HQ := Lib.hid (fun W => quick_p n d (by omega) (by omega) W)
      have hN := quick_norm (n := n) hd1 (by omega) (by omega)
      have HB : Hid (rightB n d = ((quickZ n d).1 == n && (quickZ n d).2 == d)) := Lib.hid (by
        rw [Bool.eq_iff_iff, HR.out]
        simp only [Bool.and_eq_true, beq_iff_eq]
        constructor
        · rintro ⟨-, hg⟩
          have := hN.symm.trans ((normS_iff hd1 h1 h2 h4).2 hg)
          injection this with this _
          rw [this]
          exact ⟨rfl, rfl⟩
        · rintro ⟨e1, e2⟩
          refine ⟨hd1, (normS_iff hd1 h1 h2 h4).1 ?_⟩
          rw [hN]
          rcases hqq : quickZ n d with ⟨a, b⟩
          rw [hqq] at e1 e2
          simp only at e1 e2
          rw [e1, e2])
      rw [hs.1] at HS1
      rw [hs.2] at HS2
      clear hs hsn hsd hN
      generalize quickZ n d = qq at *
      obtain ⟨q1, q2⟩ := qq
      simp only at HB HQ
      go_enter Try.func76, Try.ntmps76
      go_upto_region 4 with (first
        | (go_at_call_of 67 (Value.int .i64 n); (with_reducible refine (HS1.out _).mono ?_); rintro e w2 ⟨rfl, hx2⟩; obtain ⟨k0, k1, kl⟩ : w2.cell? ⟨w.heap.size, 0, none⟩ = some (.int .i64 n) ∧ w2.cell? ⟨w.heap.size, 1, none⟩ = some (.int .i64 d) ∧ w.heap.size < w2.heap.size := ⟨(hx2.cells.1 _ _ hlt).trans c0, (hx2.cells.1 _ _ hlt).trans c1, Nat.lt_of_lt_of_le hlt hx2.size⟩)
        | (go_at_call_of 67 (Value.int .i64 d); (with_reducible refine (HS2.out _).mono ?_); rintro e w3 ⟨rfl, hx3⟩))
      have HX3 := Lib.hid (hx2.trans hx3)
      have h26 := (HX3.out.block _ hlt).trans HC.out
      obtain ⟨hc3, -, hl3⟩ := Rg.cells_of h26
      have d0 := hc3 0; have d1 := hc3 1
      simp only [List.getElem?_toArray, List.getElem?_cons_zero, List.getElem?_cons_succ] at d0 d1
      clear hx2 hx3 k0 k1 kl hc3
      refine Rr.wp_region ((List.range 7).map (fun i => (i, .y))) (fun _ => (.cells #[] 29, Rg.ptr)) (by kernel_rfl) (by kernel_rfl) ?_
      simp only [List.range, List.range.loop, List.map_cons, List.map_nil]
      (refine Rr.wr_y (by simp only [List.getElem?_toArray, List.getElem?_cons_succ, List.getElem?_cons_zero]; rfl) (by rfl) ?_
       apply Exists.intro
       refine ⟨fun wz hw _ => ?_, ?_⟩
       · have hcz := hw.cells.1
         go_simp
         (with_reducible exact Rg.up_value)
       simp only [Act.put, List.setIfInBounds_toArray, List.set_cons_zero, List.set_cons_succ])
      (refine Rr.wr_y (by simp only [List.getElem?_toArray, List.getElem?_cons_succ, List.getElem?_cons_zero]; rfl) (by rfl) ?_
       apply Exists.intro
       refine ⟨fun wz hw _ => ?_, ?_⟩
       · have hcz := hw.cells.1
         go_simp
         (with_reducible exact Rg.up_value)
       simp only [Act.put, List.setIfInBounds_toArray, List.set_cons_zero, List.set_cons_succ])
      (refine Rr.wr_y (by simp only [List.getElem?_toArray, List.getElem?_cons_succ, List.getElem?_cons_zero]; rfl) (by rfl) ?_
       apply Exists.intro
       refine ⟨fun wz hw _ => ?_, ?_⟩
       · have hcz := hw.cells.1
         go_simp
         (with_reducible exact Rg.up_value)
       simp only [Act.put, List.setIfInBounds_toArray, List.set_cons_zero, List.set_cons_succ])
      (refine Rr.wr_y (by simp only [List.getElem?_toArray, List.getElem?_cons_succ, List.getElem?_cons_zero]; rfl) (by rfl) ?_
       apply Exists.intro
       refine ⟨fun wz hw _ => ?_, ?_⟩
       · have hcz := hw.cells.1
         go_simp
         (with_reducible exact Rg.up_value)
       simp only [Act.put, List.setIfInBounds_toArray, List.set_cons_zero, List.set_cons_succ])
      (refine Rr.wr_y (by simp only [List.getElem?_toArray, List.getElem?_cons_succ, List.getElem?_cons_zero]; rfl) (by rfl) ?_
       apply Exists.intro
       refine ⟨fun wz hw _ => ?_, ?_⟩
       · have hcz := hw.cells.1
         go_simp
         apply Rg.up_enter
         (with_reducible refine (HQ.out wz).mono ?_)
         rintro e w3 ⟨rfl, hb3⟩
         exact ⟨rfl, hb3⟩
       simp only [Act.put, List.setIfInBounds_toArray, List.set_cons_zero, List.set_cons_succ])
      (refine Rr.wr_y (by simp only [List.getElem?_toArray, List.getElem?_cons_succ, List.getElem?_cons_zero]; rfl) (by rfl) ?_
       apply Exists.intro
       refine ⟨fun wz hw _ => ?_, ?_⟩
       · have hcz := hw.cells.1
         exact up_row (by rfl) ((hw.block _ (Rg.lt_of_heap h26)).trans h26) Try.underlying26 (by kernel_rfl)
       simp only [Act.put, List.setIfInBounds_toArray, List.set_cons_zero, List.set_cons_succ])
      refine Rr.wr_y (by simp only [List.getElem?_toArray, List.getElem?_cons_succ, List.getElem?_cons_zero]; rfl) (by rfl) ⟨.bool (q1 == n && q2 == d), fun wz hw _ => ?_, ?_⟩
      · go_simp
        by_cases e1 : q1 = n
        · by_cases e2 : q2 = d
          · rw [if_pos e1, if_pos e2, show (q1 == n && q2 == d) = true by simp [e1, e2]]
            exact Rg.up_value
          · rw [if_pos e1, if_neg e2, show (q1 == n && q2 == d) = false by simp [e2]]
            exact Rg.up_value
        · rw [if_neg e1, show (q1 == n && q2 == d) = false by simp [e1]]
          exact Rg.up_value
      simp only [Act.put, List.setIfInBounds_toArray, List.set_cons_zero, List.set_cons_succ]
      refine Rr.wr_nil ?_
      intro wy hy hh
      simp only [List.length_cons, List.length_nil, List.drop_succ_cons, List.drop_zero, Nat.reduceAdd]
      clear hh
      generalize (q1 == n && q2 == d) = bv at *
      go_wp2_with (fail)
      go_ret
      exact ⟨by rw [HB.out]; rfl, HX1.out.trans (HX3.out.trans hy)⟩
    · have HB : Hid (rightB n d = ((normS n d).2 && ((n == (normS n d).1.1) && (d == (normS n d).1.2)))) := Lib.hid (by
        rw [Bool.eq_iff_iff, HR.out]
        simp only [Bool.and_eq_true, beq_iff_eq]
        constructor
        · rintro ⟨-, hg⟩
          rw [(normS_iff hd1 h1 h2 h4).2 hg]
          exact ⟨rfl, rfl, rfl⟩
        · rintro ⟨e0, e1, e2⟩
          refine ⟨hd1, (normS_iff hd1 h1 h2 h4).1 ?_⟩
          generalize normS n d = r at *
          obtain ⟨⟨a, b⟩, c⟩ := r
          simp only at e0 e1 e2
          rw [e0, ← e1, ← e2])
      obtain ⟨-, -, n3, n4, n5⟩ := of_val h1 h2
      obtain ⟨-, -, m3, m4, m5⟩ := of_val (show -9223372036854775808 ≤ d by omega) h4
      have hdn : decide (d < 0) = false := decide_eq_false (by omega)
      have HLO := Lib.hid (fun W v u (hv : BgR W v (decide (n < 0)) (ofL n.natAbs)) (hu : BgR W u (decide (d < 0)) (ofL d.natAbs)) => blowest_any _ _ _ _ W v u hv hu (by omega) (by omega) (by rw [m3]; omega))
      have hsg : sgn (decide (n < 0) != decide (d < 0)) (dv (ofL n.natAbs)) = n := by rw [hdn]; simpa using n5
      rw [hsg, m3, show normS n ((d.natAbs : Nat) : Int) = normS n d by rw [show ((d.natAbs : Nat) : Int) = d by omega]] at HLO
      clear n3 n4 n5 m3 m4 m5 hsg hdn
      generalize normS n d = r at *
      obtain ⟨⟨r1, r2⟩, r3⟩ := r
      simp only at HLO HB
      by_cases hs1 : smB n = true
      · have hs2 : smB d = false := by
          cases h : smB d
          · rfl
          · exact absurd ⟨hs1, h⟩ hs
        rw [hs1] at HS1
        rw [hs2] at HS2
        clear hs hs1 hs2
        go_enter Try.func76, Try.ntmps76
        go_upto_region 5 with (first
          | (go_at_call_of 67 (Value.int .i64 n); (with_reducible refine (HS1.out _).mono ?_); rintro e w2 ⟨rfl, hx2⟩; obtain ⟨k0, k1, kl⟩ : w2.cell? ⟨w.heap.size, 0, none⟩ = some (.int .i64 n) ∧ w2.cell? ⟨w.heap.size, 1, none⟩ = some (.int .i64 d) ∧ w.heap.size < w2.heap.size := ⟨(hx2.cells.1 _ _ hlt).trans c0, (hx2.cells.1 _ _ hlt).trans c1, Nat.lt_of_lt_of_le hlt hx2.size⟩)
          | (go_at_call_of 67 (Value.int .i64 d); (with_reducible refine (HS2.out _).mono ?_); rintro e w3 ⟨rfl, hx3⟩))
        have HX3 := Lib.hid (hx2.trans hx3)
        have h26 := (HX3.out.block _ hlt).trans HC.out
        obtain ⟨hc3, -, hl3⟩ := Rg.cells_of h26
        have d0 := hc3 0; have d1 := hc3 1
        simp only [List.getElem?_toArray, List.getElem?_cons_zero, List.getElem?_cons_succ] at d0 d1
        have HOF1 := Lib.hid (fun W => bof_any n W h1 h2)
        have HOF2 := Lib.hid (fun W => bof_any d W h3 h4)
        clear hc3
        refine Rr.wp_regionE [9] [(0, .y), (1, .y), (3, .y), (4, .y), (2, .z), (5, .z), (6, .y), (7, .y), (8, .y), (9, .y), (10, .m)] (fun _ => (.cells #[.int .i64 0, .int .i64 0] 26, Rg.ptr)) (fun c a d v w h => by have h' : _ ∧ _ := h; exact ⟨(Rr.put_defers a d v).symm.trans h'.1, h'.2⟩) (by kernel_rfl) (by kernel_rfl) ?_
        (refine Rr.wr_y (by simp only [List.getElem?_toArray, List.getElem?_cons_succ, List.getElem?_cons_zero]; rfl) (by rfl) ?_
         apply Exists.intro
         refine ⟨fun wz hw _ => ?_, ?_⟩
         · have hcz := hw.cells.1
           go_simp
           (with_reducible exact Rg.up_value)
         simp only [Act.put, List.setIfInBounds_toArray, List.set_cons_zero, List.set_cons_succ])
        (refine Rr.wr_y (by simp only [List.getElem?_toArray, List.getElem?_cons_succ, List.getElem?_cons_zero]; rfl) (by rfl) ?_
         apply Exists.intro
         refine ⟨fun wz hw _ => ?_, ?_⟩
         · have hcz := hw.cells.1
           go_simp
           (with_reducible exact Rg.up_value)
         simp only [Act.put, List.setIfInBounds_toArray, List.set_cons_zero, List.set_cons_succ])
        (refine Rr.wr_y (by simp only [List.getElem?_toArray, List.getElem?_cons_succ, List.getElem?_cons_zero]; rfl) (by rfl) ?_
         apply Exists.intro
         refine ⟨fun wz hw _ => ?_, ?_⟩
         · have hcz := hw.cells.1
           go_simp
           (with_reducible exact Rg.up_value)
         simp only [Act.put, List.setIfInBounds_toArray, List.set_cons_zero, List.set_cons_succ])
        (refine Rr.wr_y (by simp only [List.getElem?_toArray, List.getElem?_cons_succ, List.getElem?_cons_zero]; rfl) (by rfl) ?_
         apply Exists.intro
         refine ⟨fun wz hw _ => ?_, ?_⟩
         · have hcz := hw.cells.1
           go_simp
           (with_reducible exact Rg.up_value)
         simp only [Act.put, List.setIfInBounds_toArray, List.set_cons_zero, List.set_cons_succ])
        refine Rr.wr_z (fun v w' => BgR w' v (decide (n < 0)) (ofL n.natAbs)) (by simp only [List.getElem?_toArray, List.getElem?_cons_succ, List.getElem?_cons_zero]; rfl) (by rfl) (fun v w1 w2 h e => by first | exact Rd.ext e h | exact h.ext e) (fun wz hw hh => ?_) (fun u => ?_)
        · have hcz := hw.cells.1
          go_simp
          apply Rr.upR_enter
          (with_reducible refine (HOF1.out wz).mono ?_)
          rintro e w3 ⟨v3, rfl, hx3, hr3⟩
          exact ⟨v3, rfl, hx3, hr3⟩
        simp only [Act.put, List.setIfInBounds_toArray, List.set_cons_zero, List.set_cons_succ]
        refine Rr.wr_z (fun v w' => BgR w' v (decide (d < 0)) (ofL d.natAbs)) (by simp only [List.getElem?_toArray, List.getElem?_cons_succ, List.getElem?_cons_zero]; rfl) (by rfl) (fun v w1 w2 h e => by first | exact Rd.ext e h | exact h.ext e) (fun wz hw hh => ?_) (fun u => ?_)
        · have hcz := hw.cells.1
          go_simp
          apply Rr.upR_enter
          (with_reducible refine (HOF2.out wz).mono ?_)
          rintro e w3 ⟨v3, rfl, hx3, hr3⟩
          exact ⟨v3, rfl, hx3, hr3⟩
        simp only [Act.put, List.setIfInBounds_toArray, List.set_cons_zero, List.set_cons_succ]
        refine Rr.wr_y (by simp only [List.getElem?_toArray, List.getElem?_cons_succ, List.getElem?_cons_zero]; rfl) (by rfl) ⟨.tuple #[.agg #[.int .i64 r1, .int .i64 r2], .bool r3], fun wz hw hh => ?_, ?_⟩
        · go_simp
          apply Rg.up_enter
          (with_reducible refine (HLO.out wz _ _ (hold1 hh) (hold0 hh)).mono ?_)
          rintro e w4 ⟨rfl, hb4⟩
          exact ⟨rfl, hb4⟩
        simp only [Act.put, List.setIfInBounds_toArray, List.set_cons_zero, List.set_cons_succ]
        (refine Rr.wr_y (by simp only [List.getElem?_toArray, List.getElem?_cons_succ, List.getElem?_cons_zero]; rfl) (by rfl) ?_
         apply Exists.intro
         refine ⟨fun wz hw _ => ?_, ?_⟩
         · have hcz := hw.cells.1
           go_simp
           (with_reducible exact Rg.up_value)
         simp only [Act.put, List.setIfInBounds_toArray, List.set_cons_zero, List.set_cons_succ])
        (refine Rr.wr_y (by simp only [List.getElem?_toArray, List.getElem?_cons_succ, List.getElem?_cons_zero]; rfl) (by rfl) ?_
         apply Exists.intro
         refine ⟨fun wz hw _ => ?_, ?_⟩
         · have hcz := hw.cells.1
           go_simp
           (with_reducible exact Rg.up_value)
         simp only [Act.put, List.setIfInBounds_toArray, List.set_cons_zero, List.set_cons_succ])
        (refine Rr.wr_y (by simp only [List.getElem?_toArray, List.getElem?_cons_succ, List.getElem?_cons_zero]; rfl) (by rfl) ?_
         apply Exists.intro
         refine ⟨fun wz hw _ => ?_, ?_⟩
         · have hcz := hw.cells.1
           go_simp
           (with_reducible exact Rg.up_value)
         simp only [Act.put, List.setIfInBounds_toArray, List.set_cons_zero, List.set_cons_succ])
        refine Rr.wr_m (by simp only [List.getElem?_toArray, List.getElem?_cons_succ, List.getElem?_cons_zero]; rfl) (by rfl) (fun wz => by go_simp) (fun pm hpm => ?_)
        simp only [Act.put, List.setIfInBounds_toArray, List.set_cons_zero, List.set_cons_succ]
        refine Rr.wr_nil ?_
        intro wy hy hh
        obtain ⟨hb1, hb2⟩ := hh _ List.mem_cons_self
        simp only [List.length_cons, List.length_nil, List.drop_succ_cons, List.drop_zero, Nat.reduceAdd]
        refine wpList_store_row (hgd := rfl) 26 (.tmp 3) (.tmp 31) rfl pm (by rfl) #[.int .i64 r1, .int .i64 r2] (by rfl) #[.int .i64 0, .int .i64 0] 26 hb2 (by rfl) (by kernel_rfl) (by simp [Value.oneCell']) ?_
        have hbc := setRow_heap wy pm _ #[.int .i64 r1, .int .i64 r2] 26 _ hb2
        have hxc := below_setRow hy hb1 #[.int .i64 r1, .int .i64 r2]
        generalize wy.setRow pm #[.int .i64 r1, .int .i64 r2] = W9 at *
        have h27 := (Below.block hxc _ (Rg.lt_of_heap h26)).trans h26
        obtain ⟨hc9, -, hl9⟩ := Rg.cells_of h27
        obtain ⟨hcm, -, hlm⟩ := Rg.cells_of hbc
        have t0 : W9.cell? ⟨w.heap.size, 0, none⟩ = some (.int .i64 n) := hc9 0
        have t1 : W9.cell? ⟨w.heap.size, 1, none⟩ = some (.int .i64 d) := hc9 1
        have t2 : W9.cell? ⟨pm, 0, none⟩ = some (.int .i64 r1) := hcm 0
        have t3 : W9.cell? ⟨pm, 1, none⟩ = some (.int .i64 r2) := hcm 1
        have HX9 := Lib.hid (HX1.out.trans (HX3.out.trans hxc))
        clear hh hb2 hy hbc hxc h27 hc9 hcm d0 d1 h26 hl3 HX3
        cases r3
        · go_wp2_with (fail)
          go_ret
          exact ⟨by rw [HB.out]; rfl, HX9.out⟩
        · by_cases e1 : n = r1
          · by_cases e2 : d = r2
            · have HB2 : Hid (rightB n d = true) := Lib.hid (by rw [HB.out]; simp [e1, e2])
              go_wp2_with (fail)
              go_ret
              exact ⟨by rw [HB2.out]; rfl, HX9.out⟩
            · have HB2 : Hid (rightB n d = false) := Lib.hid (by rw [HB.out]; simp [e2])
              go_wp2_with (fail)
              go_ret
              exact ⟨by rw [HB2.out]; rfl, HX9.out⟩
          · have HB2 : Hid (rightB n d = false) := Lib.hid (by rw [HB.out]; simp [e1])
            go_wp2_with (fail)
            go_ret
            exact ⟨by rw [HB2.out]; rfl, HX9.out⟩
      · have hs1' : smB n = false := by simpa using hs1
        rw [hs1'] at HS1
        clear hs hs1 hs1'
        go_enter Try.func76, Try.ntmps76
        go_upto_region 5 with (go_at_call_of 67 (Value.int .i64 n); (with_reducible refine (HS1.out _).mono ?_); rintro e w2 ⟨rfl, hx2⟩)
        have HX3 := Lib.hid (hx2)
        have h26 := (HX3.out.block _ hlt).trans HC.out
        obtain ⟨hc3, -, hl3⟩ := Rg.cells_of h26
        have d0 := hc3 0; have d1 := hc3 1
        simp only [List.getElem?_toArray, List.getElem?_cons_zero, List.getElem?_cons_succ] at d0 d1
        have HOF1 := Lib.hid (fun W => bof_any n W h1 h2)
        have HOF2 := Lib.hid (fun W => bof_any d W h3 h4)
        clear hc3
        refine Rr.wp_regionE [9] [(0, .y), (1, .y), (3, .y), (4, .y), (2, .z), (5, .z), (6, .y), (7, .y), (8, .y), (9, .y), (10, .m)] (fun _ => (.cells #[.int .i64 0, .int .i64 0] 26, Rg.ptr)) (fun c a d v w h => by have h' : _ ∧ _ := h; exact ⟨(Rr.put_defers a d v).symm.trans h'.1, h'.2⟩) (by kernel_rfl) (by kernel_rfl) ?_
        (refine Rr.wr_y (by simp only [List.getElem?_toArray, List.getElem?_cons_succ, List.getElem?_cons_zero]; rfl) (by rfl) ?_
         apply Exists.intro
         refine ⟨fun wz hw _ => ?_, ?_⟩
         · have hcz := hw.cells.1
           go_simp
           (with_reducible exact Rg.up_value)
         simp only [Act.put, List.setIfInBounds_toArray, List.set_cons_zero, List.set_cons_succ])
        (refine Rr.wr_y (by simp only [List.getElem?_toArray, List.getElem?_cons_succ, List.getElem?_cons_zero]; rfl) (by rfl) ?_
         apply Exists.intro
         refine ⟨fun wz hw _ => ?_, ?_⟩
         · have hcz := hw.cells.1
           go_simp
           (with_reducible exact Rg.up_value)
         simp only [Act.put, List.setIfInBounds_toArray, List.set_cons_zero, List.set_cons_succ])
        (refine Rr.wr_y (by simp only [List.getElem?_toArray, List.getElem?_cons_succ, List.getElem?_cons_zero]; rfl) (by rfl) ?_
         apply Exists.intro
         refine ⟨fun wz hw _ => ?_, ?_⟩
         · have hcz := hw.cells.1
           go_simp
           (with_reducible exact Rg.up_value)
         simp only [Act.put, List.setIfInBounds_toArray, List.set_cons_zero, List.set_cons_succ])
        (refine Rr.wr_y (by simp only [List.getElem?_toArray, List.getElem?_cons_succ, List.getElem?_cons_zero]; rfl) (by rfl) ?_
         apply Exists.intro
         refine ⟨fun wz hw _ => ?_, ?_⟩
         · have hcz := hw.cells.1
           go_simp
           (with_reducible exact Rg.up_value)
         simp only [Act.put, List.setIfInBounds_toArray, List.set_cons_zero, List.set_cons_succ])
        refine Rr.wr_z (fun v w' => BgR w' v (decide (n < 0)) (ofL n.natAbs)) (by simp only [List.getElem?_toArray, List.getElem?_cons_succ, List.getElem?_cons_zero]; rfl) (by rfl) (fun v w1 w2 h e => by first | exact Rd.ext e h | exact h.ext e) (fun wz hw hh => ?_) (fun u => ?_)
        · have hcz := hw.cells.1
          go_simp
          apply Rr.upR_enter
          (with_reducible refine (HOF1.out wz).mono ?_)
          rintro e w3 ⟨v3, rfl, hx3, hr3⟩
          exact ⟨v3, rfl, hx3, hr3⟩
        simp only [Act.put, List.setIfInBounds_toArray, List.set_cons_zero, List.set_cons_succ]
        refine Rr.wr_z (fun v w' => BgR w' v (decide (d < 0)) (ofL d.natAbs)) (by simp only [List.getElem?_toArray, List.getElem?_cons_succ, List.getElem?_cons_zero]; rfl) (by rfl) (fun v w1 w2 h e => by first | exact Rd.ext e h | exact h.ext e) (fun wz hw hh => ?_) (fun u => ?_)
        · have hcz := hw.cells.1
          go_simp
          apply Rr.upR_enter
          (with_reducible refine (HOF2.out wz).mono ?_)
          rintro e w3 ⟨v3, rfl, hx3, hr3⟩
          exact ⟨v3, rfl, hx3, hr3⟩
        simp only [Act.put, List.setIfInBounds_toArray, List.set_cons_zero, List.set_cons_succ]
        refine Rr.wr_y (by simp only [List.getElem?_toArray, List.getElem?_cons_succ, List.getElem?_cons_zero]; rfl) (by rfl) ⟨.tuple #[.agg #[.int .i64 r1, .int .i64 r2], .bool r3], fun wz hw hh => ?_, ?_⟩
        · go_simp
          apply Rg.up_enter
          (with_reducible refine (HLO.out wz _ _ (hold1 hh) (hold0 hh)).mono ?_)
          rintro e w4 ⟨rfl, hb4⟩
          exact ⟨rfl, hb4⟩
        simp only [Act.put, List.setIfInBounds_toArray, List.set_cons_zero, List.set_cons_succ]
        (refine Rr.wr_y (by simp only [List.getElem?_toArray, List.getElem?_cons_succ, List.getElem?_cons_zero]; rfl) (by rfl) ?_
         apply Exists.intro
         refine ⟨fun wz hw _ => ?_, ?_⟩
         · have hcz := hw.cells.1
           go_simp
           (with_reducible exact Rg.up_value)
         simp only [Act.put, List.setIfInBounds_toArray, List.set_cons_zero, List.set_cons_succ])
        (refine Rr.wr_y (by simp only [List.getElem?_toArray, List.getElem?_cons_succ, List.getElem?_cons_zero]; rfl) (by rfl) ?_
         apply Exists.intro
         refine ⟨fun wz hw _ => ?_, ?_⟩
         · have hcz := hw.cells.1
           go_simp
           (with_reducible exact Rg.up_value)
         simp only [Act.put, List.setIfInBounds_toArray, List.set_cons_zero, List.set_cons_succ])
        (refine Rr.wr_y (by simp only [List.getElem?_toArray, List.getElem?_cons_succ, List.getElem?_cons_zero]; rfl) (by rfl) ?_
         apply Exists.intro
         refine ⟨fun wz hw _ => ?_, ?_⟩
         · have hcz := hw.cells.1
           go_simp
           (with_reducible exact Rg.up_value)
         simp only [Act.put, List.setIfInBounds_toArray, List.set_cons_zero, List.set_cons_succ])
        refine Rr.wr_m (by simp only [List.getElem?_toArray, List.getElem?_cons_succ, List.getElem?_cons_zero]; rfl) (by rfl) (fun wz => by go_simp) (fun pm hpm => ?_)
        simp only [Act.put, List.setIfInBounds_toArray, List.set_cons_zero, List.set_cons_succ]
        refine Rr.wr_nil ?_
        intro wy hy hh
        obtain ⟨hb1, hb2⟩ := hh _ List.mem_cons_self
        simp only [List.length_cons, List.length_nil, List.drop_succ_cons, List.drop_zero, Nat.reduceAdd]
        refine wpList_store_row (hgd := rfl) 26 (.tmp 3) (.tmp 31) rfl pm (by rfl) #[.int .i64 r1, .int .i64 r2] (by rfl) #[.int .i64 0, .int .i64 0] 26 hb2 (by rfl) (by kernel_rfl) (by simp [Value.oneCell']) ?_
        have hbc := setRow_heap wy pm _ #[.int .i64 r1, .int .i64 r2] 26 _ hb2
        have hxc := below_setRow hy hb1 #[.int .i64 r1, .int .i64 r2]
        generalize wy.setRow pm #[.int .i64 r1, .int .i64 r2] = W9 at *
        have h27 := (Below.block hxc _ (Rg.lt_of_heap h26)).trans h26
        obtain ⟨hc9, -, hl9⟩ := Rg.cells_of h27
        obtain ⟨hcm, -, hlm⟩ := Rg.cells_of hbc
        have t0 : W9.cell? ⟨w.heap.size, 0, none⟩ = some (.int .i64 n) := hc9 0
        have t1 : W9.cell? ⟨w.heap.size, 1, none⟩ = some (.int .i64 d) := hc9 1
        have t2 : W9.cell? ⟨pm, 0, none⟩ = some (.int .i64 r1) := hcm 0
        have t3 : W9.cell? ⟨pm, 1, none⟩ = some (.int .i64 r2) := hcm 1
        have HX9 := Lib.hid (HX1.out.trans (HX3.out.trans hxc))
        clear hh hb2 hy hbc hxc h27 hc9 hcm d0 d1 h26 hl3 HX3
        cases r3
        · go_wp2_with (fail)
          go_ret
          exact ⟨by rw [HB.out]; rfl, HX9.out⟩
        · by_cases e1 : n = r1
          · by_cases e2 : d = r2
            · have HB2 : Hid (rightB n d = true) := Lib.hid (by rw [HB.out]; simp [e1, e2])
              go_wp2_with (fail)
              go_ret
              exact ⟨by rw [HB2.out]; rfl, HX9.out⟩
            · have HB2 : Hid (rightB n d = false) := Lib.hid (by rw [HB.out]; simp [e2])
              go_wp2_with (fail)
              go_ret
              exact ⟨by rw [HB2.out]; rfl, HX9.out⟩
          · have HB2 : Hid (rightB n d = false) := Lib.hid (by rw [HB.out]; simp [e1])
            go_wp2_with (fail)
            go_ret
            exact ⟨by rw [HB2.out]; rfl, HX9.out⟩
end Go.Proofs.Ytgkdeknfmmgbdaa

namespace Go.Proofs.Ytgkdeknfmmgbdaa
set_option linter.unusedVariables false
set_option linter.unusedSimpArgs false
open Go.RowKit

/-- A number of package api whose parts are ints of the machine. -/
def OkR (a : Int × Int) : Prop := -9223372036854775808 ≤ a.1 ∧ a.1 ≤ 9223372036854775807 ∧ -9223372036854775808 ≤ a.2 ∧ a.2 ≤ 9223372036854775807
theorem rbox2 {w : World} {a b : Int × Int} : Ext w ((w.alloc (.cells #[.int .i64 a.1, .int .i64 a.2] 26)).alloc (.cells #[.int .i64 b.1, .int .i64 b.2] 26)) ∧
    ((w.alloc (.cells #[.int .i64 a.1, .int .i64 a.2] 26)).alloc (.cells #[.int .i64 b.1, .int .i64 b.2] 26)).heap[w.heap.size]? = some (.cells #[.int .i64 a.1, .int .i64 a.2] 26) ∧
    ((w.alloc (.cells #[.int .i64 a.1, .int .i64 a.2] 26)).alloc (.cells #[.int .i64 b.1, .int .i64 b.2] 26)).heap[w.heap.size + 1]? = some (.cells #[.int .i64 b.1, .int .i64 b.2] 26) :=
  ⟨Ext.alloc (Ext.alloc (Ext.refl _) _) _, by rw [Below.heap_alloc _ _ _ (by simp)]; exact block_new rfl, block_new (by simp)⟩
/-- The cells of a number. -/
theorem rcell {w : World} {p : Nat} {a : Int × Int} (h : w.heap[p]? = some (.cells #[.int .i64 a.1, .int .i64 a.2] 26)) : w.cell? ⟨p, 0, none⟩ = some (.int .i64 a.1) ∧ w.cell? ⟨p, 1, none⟩ = some (.int .i64 a.2) ∧ p < w.heap.size :=
  ⟨(Rg.cells_of h).1 0, (Rg.cells_of h).1 1, Rg.lt_of_heap h⟩
set_option maxRecDepth 100000 in
set_option maxHeartbeats 1000000 in
theorem rboth_any (a b : Int × Int) (ha : OkR a) (hb : OkR b) (w : World) :
    Calls Try.prog 50 #[rv a, rv b] w fun e w' => e = .returned (.bool (rightB a.1 a.2 && rightB b.1 b.2)) ∧ Ext w w' := by
  obtain ⟨hx, h2, h3⟩ := rbox2 (w := w) (a := a) (b := b)
  obtain ⟨a1, a2⟩ := a
  obtain ⟨b1, b2⟩ := b
  obtain ⟨k1, k2, k3, k4⟩ := ha
  obtain ⟨m1, m2, m3, m4⟩ := hb
  have HR1 := Lib.hid (fun W => rRight_any a1 a2 k1 k2 k3 k4 W)
  have HR2 := Lib.hid (fun W => rRight_any b1 b2 m1 m2 m3 m4 W)
  obtain ⟨c0, c1, cl⟩ := rcell (a := (a1, a2)) h2
  obtain ⟨d0, d1, dl⟩ := rcell (a := (b1, b2)) h3
  simp only at c0 c1 d0 d1 hx h2 h3 cl dl ⊢
  generalize rightB a1 a2 = r1 at *
  generalize rightB b1 b2 = r2 at *
  have HX := Lib.hid hx
  clear k1 k2 k3 k4 m1 m2 m3 m4 h2 h3 hx
  cases r1
  · go_enter Try.func50, Try.ntmps50
    go_wp2_with (first
      | (go_at_call_of 76 (Value.agg #[.int .i64 a1, .int .i64 a2]); (with_reducible refine (HR1.out _).mono ?_); rintro e w2 ⟨rfl, hx2⟩; have e0 := (hx2.cells.1 _ _ dl).trans d0; have e1 := (hx2.cells.1 _ _ dl).trans d1; have el := Nat.lt_of_lt_of_le dl hx2.size)
      | (go_at_call_of 76 (Value.agg #[.int .i64 b1, .int .i64 b2]); (with_reducible refine (HR2.out _).mono ?_); rintro e w3 ⟨rfl, hx3⟩))
    go_ret
    exact ⟨rfl, HX.out.trans (hx2.trans hx3)⟩
  · go_enter Try.func50, Try.ntmps50
    go_wp2_with (first
      | (go_at_call_of 76 (Value.agg #[.int .i64 a1, .int .i64 a2]); (with_reducible refine (HR1.out _).mono ?_); rintro e w2 ⟨rfl, hx2⟩; have e0 := (hx2.cells.1 _ _ dl).trans d0; have e1 := (hx2.cells.1 _ _ dl).trans d1; have el := Nat.lt_of_lt_of_le dl hx2.size)
      | (go_at_call_of 76 (Value.agg #[.int .i64 b1, .int .i64 b2]); (with_reducible refine (HR2.out _).mono ?_); rintro e w3 ⟨rfl, hx3⟩))
    go_ret
    exact ⟨rfl, HX.out.trans (hx2.trans hx3)⟩
def tinyB (a b : Int × Int) : Bool := smB a.1 && smB a.2 && smB b.1 && smB b.2
set_option maxRecDepth 100000 in
set_option maxHeartbeats 1000000 in
theorem tiny_any (a b : Int × Int) (w : World) :
    Calls Try.prog 51 #[rv a, rv b] w fun e w' => e = .returned (.bool (tinyB a b)) ∧ Ext w w' := by
  obtain ⟨hx, h2, h3⟩ := rbox2 (w := w) (a := a) (b := b)
  obtain ⟨a1, a2⟩ := a
  obtain ⟨b1, b2⟩ := b
  have H1 := Lib.hid (fun W => small_c a1 W)
  have H2 := Lib.hid (fun W => small_c a2 W)
  have H3 := Lib.hid (fun W => small_c b1 W)
  have H4 := Lib.hid (fun W => small_c b2 W)
  obtain ⟨c0, c1, cl⟩ := rcell (a := (a1, a2)) h2
  obtain ⟨d0, d1, dl⟩ := rcell (a := (b1, b2)) h3
  unfold tinyB
  simp only at c0 c1 d0 d1 hx h2 h3 cl dl ⊢
  generalize smB a1 = s1 at *
  generalize smB a2 = s2 at *
  generalize smB b1 = s3 at *
  generalize smB b2 = s4 at *
  have HX := Lib.hid hx
  clear h2 h3 hx
  cases s1
  · skip
    go_enter Try.func51, Try.ntmps51
    go_wp2_with (first
      | (go_at_call_of 67 (Value.int .i64 a1); (with_reducible refine (H1.out _).mono ?_); rintro e w2 ⟨rfl, rfl⟩)
      | (go_at_call_of 67 (Value.int .i64 a2); (with_reducible refine (H2.out _).mono ?_); rintro e w2 ⟨rfl, rfl⟩)
      | (go_at_call_of 67 (Value.int .i64 b1); (with_reducible refine (H3.out _).mono ?_); rintro e w2 ⟨rfl, rfl⟩)
      | (go_at_call_of 67 (Value.int .i64 b2); (with_reducible refine (H4.out _).mono ?_); rintro e w2 ⟨rfl, rfl⟩))
    go_ret
    exact ⟨rfl, HX.out⟩
  · cases s2
    · skip
      go_enter Try.func51, Try.ntmps51
      go_wp2_with (first
        | (go_at_call_of 67 (Value.int .i64 a1); (with_reducible refine (H1.out _).mono ?_); rintro e w2 ⟨rfl, rfl⟩)
        | (go_at_call_of 67 (Value.int .i64 a2); (with_reducible refine (H2.out _).mono ?_); rintro e w2 ⟨rfl, rfl⟩)
        | (go_at_call_of 67 (Value.int .i64 b1); (with_reducible refine (H3.out _).mono ?_); rintro e w2 ⟨rfl, rfl⟩)
        | (go_at_call_of 67 (Value.int .i64 b2); (with_reducible refine (H4.out _).mono ?_); rintro e w2 ⟨rfl, rfl⟩))
      go_ret
      exact ⟨rfl, HX.out⟩
    · cases s3
      · skip
        go_enter Try.func51, Try.ntmps51
        go_wp2_with (first
          | (go_at_call_of 67 (Value.int .i64 a1); (with_reducible refine (H1.out _).mono ?_); rintro e w2 ⟨rfl, rfl⟩)
          | (go_at_call_of 67 (Value.int .i64 a2); (with_reducible refine (H2.out _).mono ?_); rintro e w2 ⟨rfl, rfl⟩)
          | (go_at_call_of 67 (Value.int .i64 b1); (with_reducible refine (H3.out _).mono ?_); rintro e w2 ⟨rfl, rfl⟩)
          | (go_at_call_of 67 (Value.int .i64 b2); (with_reducible refine (H4.out _).mono ?_); rintro e w2 ⟨rfl, rfl⟩))
        go_ret
        exact ⟨rfl, HX.out⟩
      · skip
        go_enter Try.func51, Try.ntmps51
        go_wp2_with (first
          | (go_at_call_of 67 (Value.int .i64 a1); (with_reducible refine (H1.out _).mono ?_); rintro e w2 ⟨rfl, rfl⟩)
          | (go_at_call_of 67 (Value.int .i64 a2); (with_reducible refine (H2.out _).mono ?_); rintro e w2 ⟨rfl, rfl⟩)
          | (go_at_call_of 67 (Value.int .i64 b1); (with_reducible refine (H3.out _).mono ?_); rintro e w2 ⟨rfl, rfl⟩)
          | (go_at_call_of 67 (Value.int .i64 b2); (with_reducible refine (H4.out _).mono ?_); rintro e w2 ⟨rfl, rfl⟩))
        go_ret
        exact ⟨rfl, HX.out⟩

/-- A sum of great numbers. -/
theorem sum_val {s t : Bool} {l m : List Int} (hl : Dg l) (hm : Dg m) : Dg (bgSum s t l m).2 ∧ sgn (bgSum s t l m).1 (dv (bgSum s t l m).2) = sgn s (dv l) + sgn t (dv m) ∧ (bgSum s t l m).2.length ≤ max l.length m.length + 1 := by
  unfold bgSum
  by_cases h : s = t
  · subst h
    rw [if_pos rfl]
    obtain ⟨h1, h2, h3⟩ := plusL_spec 0 l m (by omega) (by omega) hl hm
    refine ⟨h1, ?_, h3⟩
    simp only
    rw [h2]
    unfold sgn
    cases s <;> simp <;> omega
  · rw [if_neg h]
    by_cases h2 : dv m ≤ dv l
    · rw [if_pos h2]
      obtain ⟨k1, k2, k3⟩ := minusL_spec 0 l m (by omega) (by omega) hl hm (by omega)
      obtain ⟨t1, t2, t3, t4⟩ := trimL_spec _ k1
      refine ⟨t1, ?_, by simp only; omega⟩
      simp only
      rw [t3, k2]
      unfold sgn
      cases s <;> cases t <;> simp at h ⊢ <;> omega
    · rw [if_neg h2]
      obtain ⟨k1, k2, k3⟩ := minusL_spec 0 m l (by omega) (by omega) hm hl (by omega)
      obtain ⟨t1, t2, t3, t4⟩ := trimL_spec _ k1
      refine ⟨t1, ?_, by simp only; omega⟩
      simp only
      rw [t3, k2]
      unfold sgn
      cases s <;> cases t <;> simp at h ⊢ <;> omega
theorem sgn_mulB (s t : Bool) (a b : Int) : sgn (s != t) (a * b) = sgn s a * sgn t b := by
  unfold sgn
  cases s <;> cases t <;> simp [Int.neg_mul, Int.mul_neg]
/-- A product of two ints, as great numbers. -/
theorem mul_val {a b : Int} (ha : -9223372036854775808 ≤ a ∧ a ≤ 9223372036854775807) (hb : -9223372036854775808 ≤ b ∧ b ≤ 9223372036854775807) :
    Dg (timesL (ofL a.natAbs) (ofL b.natAbs)) ∧ sgn (decide (a < 0) != decide (b < 0)) (dv (timesL (ofL a.natAbs) (ofL b.natAbs))) = a * b ∧ (timesL (ofL a.natAbs) (ofL b.natAbs)).length ≤ 8 := by
  obtain ⟨a1, -, a3, a4, a5⟩ := of_val ha.1 ha.2
  obtain ⟨b1, -, b3, b4, b5⟩ := of_val hb.1 hb.2
  obtain ⟨k1, -, k3, k4⟩ := timesL_spec _ _ a1 b1
  refine ⟨k1, ?_, by omega⟩
  rw [k3, sgn_mulB, a5, b5]
end Go.Proofs.Ytgkdeknfmmgbdaa

namespace Go.Proofs.Ytgkdeknfmmgbdaa
set_option linter.unusedVariables false
set_option linter.unusedSimpArgs false
open Go.RowKit

theorem hold3 {f a b c : World → Prop} {fs : List (World → Prop)} {w : World} (h : Rr.Holds (a :: b :: c :: f :: fs) w) : f w := h _ (List.mem_cons_of_mem _ (List.mem_cons_of_mem _ (List.mem_cons_of_mem _ List.mem_cons_self)))
theorem sm_mul {x y : Int} (hx : -1000000000 < x ∧ x < 1000000000) (hy : -1000000000 < y ∧ y < 1000000000) : -1000000000000000000 ≤ x * y ∧ x * y ≤ 1000000000000000000 := by
  have h : (x * y).natAbs ≤ 1000000000 * 1000000000 := by
    rw [Int.natAbs_mul]
    exact Nat.mul_le_mul (by omega) (by omega)
  omega
/-- The reference's operation on two numbers: in lowest terms, where both are right. -/
def refOp (a b : Int × Int) (N D : Int) : (Int × Int) × Bool := if (rightB a.1 a.2 && rightB b.1 b.2) = true then normS N D else ((0, 1), false)

set_option maxRecDepth 100000 in
set_option maxHeartbeats 1000000 in
theorem rMul_any (a b : Int × Int) (ha : OkR a) (hb : OkR b) (w : World) :
    Calls Try.prog 27 #[rv a, rv b] w fun e w' => e = .returned (rbv (refOp a b (a.1 * b.1) (a.2 * b.2))) ∧ Ext w w' := by
  have HBO := Lib.hid (fun W => rboth_any a b ha hb W)
  have HTI := Lib.hid (fun W => tiny_any a b W)
  obtain ⟨hxb, h2, h3⟩ := rbox2 (w := w) (a := a) (b := b)
  obtain ⟨W1, hW1⟩ : ∃ W1, W1 = (((w.alloc (.cells #[.int .i64 a.1, .int .i64 a.2] 26)).alloc (.cells #[.int .i64 b.1, .int .i64 b.2] 26)).alloc (.cells #[.int .i64 0, .int .i64 0] 26)) := ⟨_, rfl⟩
  have hx1 : Ext w W1 := by rw [hW1]; exact Ext.alloc hxb _
  have k2 : W1.heap[w.heap.size]? = some (.cells #[.int .i64 a.1, .int .i64 a.2] 26) := by rw [hW1, Below.heap_alloc _ _ _ (Rg.lt_of_heap h2)]; exact h2
  have k3 : W1.heap[w.heap.size + 1]? = some (.cells #[.int .i64 b.1, .int .i64 b.2] 26) := by rw [hW1, Below.heap_alloc _ _ _ (Rg.lt_of_heap h3)]; exact h3
  have k4 : W1.heap[w.heap.size + 1 + 1]? = some (.cells #[.int .i64 0, .int .i64 0] 26) := by rw [hW1]; exact block_new (by simp)
  clear hxb h2 h3
  obtain ⟨a1, a2⟩ := a
  obtain ⟨b1, b2⟩ := b
  simp only at k2 k3 k4 hW1
  have HC : Hid (∀ W, Ext W1 W → W.cell? ⟨w.heap.size, 0, none⟩ = some (.int .i64 a1) ∧ W.cell? ⟨w.heap.size, 1, none⟩ = some (.int .i64 a2) ∧ w.heap.size < W.heap.size ∧ W.cell? ⟨w.heap.size + 1, 0, none⟩ = some (.int .i64 b1) ∧ W.cell? ⟨w.heap.size + 1, 1, none⟩ = some (.int .i64 b2) ∧ w.heap.size + 1 < W.heap.size ∧ W.heap[w.heap.size + 1 + 1]? = some (.cells #[.int .i64 0, .int .i64 0] 26)) := Lib.hid fun W hW => by
    obtain ⟨c0, c1, cl⟩ := rcell (a := (a1, a2)) ((hW.block _ (Rg.lt_of_heap k2)).trans k2)
    obtain ⟨d0, d1, dl⟩ := rcell (a := (b1, b2)) ((hW.block _ (Rg.lt_of_heap k3)).trans k3)
    exact ⟨c0, c1, cl, d0, d1, dl, (hW.block _ (Rg.lt_of_heap k4)).trans k4⟩
  have HX1 := Lib.hid hx1
  have HA := Lib.hid ha; have HB := Lib.hid hb
  clear ha hb k2 k3 k4 hx1
  unfold tinyB at HTI
  simp only at HBO HTI ⊢
  go_enter Try.func27, Try.ntmps27
  go_upto_region 1 with (fail)
  rw [← hW1]
  clear hW1
  obtain ⟨p2, hp2⟩ : ∃ p2, p2 = w.heap.size := ⟨_, rfl⟩
  obtain ⟨p3, hp3⟩ : ∃ p3, p3 = w.heap.size + 1 := ⟨_, rfl⟩
  obtain ⟨p4, hp4⟩ : ∃ p4, p4 = w.heap.size + 1 + 1 := ⟨_, rfl⟩
  rw [← hp4, ← hp3, ← hp2] at HC ⊢
  have HP4 := Lib.hid (show w.heap.size ≤ p4 by omega)
  clear hp2 hp3 hp4
  obtain ⟨c0, c1, cl, d0, d1, dl, -⟩ := HC.out W1 (Ext.refl _)
  obtain ⟨rr, hrr⟩ : ∃ rr, rr = (rightB a1 a2 && rightB b1 b2) := ⟨_, rfl⟩
  rw [← hrr] at HBO
  cases rr
  · have HRES : Hid (refOp (a1, a2) (b1, b2) (a1 * b1) (a2 * b2) = ((0, 1), false)) := Lib.hid (if_neg (by rw [← hrr]; simp))
    clear HTI hrr
    go_wp2_with (first
      | (go_at_call 50; (with_reducible refine (HBO.out _).mono ?_); rintro e w2 ⟨rfl, hx2⟩)
      | (go_at_call 29; (with_reducible refine (refOf_any _ _).mono ?_); rintro e w9 ⟨rfl, hx9⟩; obtain ⟨hc9, hf9, hl9⟩ := Rg.cells_of (HC.out w9 (hx2.trans hx9)).2.2.2.2.2.2))
    have hp4 := HP4.out
    have hxx := HX1.out.trans (hx2.trans hx9)
    exact bodyPost_ret (v := rbv ((0, 1), false)) (by simp [results, Try.results27, go_sem, hc9, hf9]) rfl ⟨by rw [HRES.out], (by with_reducible repeat (first | exact Ext.refl _ | assumption | apply Ext.drewN | apply Ext.drew | apply Ext.alloc | (refine Ext.setCell ?_ (by simp <;> omega) _) | (refine Ext.trans ?_ (by assumption))))⟩
  · have hr1 := (Bool.and_eq_true_iff.1 hrr.symm).1
    have hr2 := (Bool.and_eq_true_iff.1 hrr.symm).2
    obtain ⟨ha2, hga⟩ := (rightB_iff _ _).1 hr1
    obtain ⟨hb2, hgb⟩ := (rightB_iff _ _).1 hr2
    have HRR : Hid (refOp (a1, a2) (b1, b2) (a1 * b1) (a2 * b2) = normS (a1 * b1) (a2 * b2)) := Lib.hid (if_pos hrr.symm)
    clear hrr hr1 hr2 hga hgb
    have HPA := Lib.hid ha2; have HPB := Lib.hid hb2
    clear ha2 hb2
    obtain ⟨tb, htb⟩ : ∃ tb, tb = (smB a1 && smB a2 && smB b1 && smB b2) := ⟨_, rfl⟩
    rw [← htb] at HTI
    have HTB := Lib.hid htb
    clear htb
    go_upto_region 3 with (go_at_call 50; (with_reducible refine (HBO.out _).mono ?_); rintro e w2 ⟨rfl, hx2⟩)
    have HX2 := Lib.hid hx2
    clear c0 c1 cl d0 d1 dl hx2 HBO
    obtain ⟨c0, c1, cl, d0, d1, dl, -⟩ := HC.out w2 HX2.out
    cases tb
    · go_upto_region 5 with (go_at_call 51; (with_reducible refine (HTI.out _).mono ?_); rintro e w3 ⟨rfl, hx3⟩)
      have HX3 := Lib.hid (HX2.out.trans hx3)
      clear c0 c1 cl d0 d1 dl hx3 HX2 HTI
      obtain ⟨c0, c1, cl, d0, d1, dl, -⟩ := HC.out w3 HX3.out
      have HO1 := Lib.hid (fun W => bof_any a1 W HA.out.1 HA.out.2.1)
      have HO2 := Lib.hid (fun W => bof_any a2 W HA.out.2.2.1 HA.out.2.2.2)
      have HO3 := Lib.hid (fun W => bof_any b1 W HB.out.1 HB.out.2.1)
      have HO4 := Lib.hid (fun W => bof_any b2 W HB.out.2.2.1 HB.out.2.2.2)
      have L1 : (ofL (a1.natAbs : Int)).length ≤ 4 := (of_val HA.out.1 HA.out.2.1).2.2.2.1
      have L2 : (ofL (a2.natAbs : Int)).length ≤ 4 := (of_val HA.out.2.2.1 HA.out.2.2.2).2.2.2.1
      have L3 : (ofL (b1.natAbs : Int)).length ≤ 4 := (of_val HB.out.1 HB.out.2.1).2.2.2.1
      have L4 : (ofL (b2.natAbs : Int)).length ≤ 4 := (of_val HB.out.2.2.1 HB.out.2.2.2).2.2.2.1
      obtain ⟨-, n2, n3⟩ := mul_val (a := a1) (b := b1) ⟨HA.out.1, HA.out.2.1⟩ ⟨HB.out.1, HB.out.2.1⟩
      obtain ⟨-, m2, m3⟩ := mul_val (a := a2) (b := b2) ⟨HA.out.2.2.1, HA.out.2.2.2⟩ ⟨HB.out.2.2.1, HB.out.2.2.2⟩
      have hda : (decide (a2 < 0) != decide (b2 < 0)) = false := by rw [decide_eq_false (by have := HPA.out; omega), decide_eq_false (by have := HPB.out; omega)]; rfl
      have hdp : 0 < a2 * b2 := Int.mul_pos HPA.out HPB.out
      have hdv : dv (timesL (ofL a2.natAbs) (ofL b2.natAbs)) = a2 * b2 := by rw [hda] at m2; exact m2
      have HLO := Lib.hid (fun W v u (hv : BgR W v (decide (a1 < 0) != decide (b1 < 0)) (timesL (ofL a1.natAbs) (ofL b1.natAbs))) (hu : BgR W u (decide (a2 < 0) != decide (b2 < 0)) (timesL (ofL a2.natAbs) (ofL b2.natAbs))) => blowest_any _ _ _ _ W v u hv hu (by omega) (by omega) (by rw [hdv]; exact hdp))
      rw [hdv, show sgn ((decide (a1 < 0) != decide (b1 < 0)) != (decide (a2 < 0) != decide (b2 < 0))) (dv (timesL (ofL a1.natAbs) (ofL b1.natAbs))) = a1 * b1 by rw [hda, show ∀ x : Bool, (x != false) = x by intro x; cases x <;> rfl]; exact n2] at HLO
      have HM1 := Lib.hid (fun W v u (hv : BgR W v (decide (a1 < 0)) (ofL a1.natAbs)) (hu : BgR W u (decide (b1 < 0)) (ofL b1.natAbs)) => bmul_any (decide (a1 < 0)) (decide (b1 < 0)) (ofL a1.natAbs) (ofL b1.natAbs) W v u hv hu (by omega) (by omega))
      have HM2 := Lib.hid (fun W v u (hv : BgR W v (decide (a2 < 0)) (ofL a2.natAbs)) (hu : BgR W u (decide (b2 < 0)) (ofL b2.natAbs)) => bmul_any (decide (a2 < 0)) (decide (b2 < 0)) (ofL a2.natAbs) (ofL b2.natAbs) W v u hv hu (by omega) (by omega))
      clear L1 L2 L3 L4 n2 n3 m2 m3 hda hdp hdv
      obtain ⟨⟨⟨r1, r2⟩, r3⟩, hnr⟩ : ∃ nr : (Int × Int) × Bool, nr = normS (a1 * b1) (a2 * b2) := ⟨_, rfl⟩
      rw [← hnr] at HLO
      have HRES := Lib.hid (HRR.out.trans hnr.symm)
      clear hnr HRR
      simp only at HLO
      refine Rr.wp_regionE [16] [(0, .y), (1, .y), (3, .y), (4, .y), (7, .y), (8, .y), (10, .y), (11, .y), (2, .z), (5, .z), (6, .z), (9, .z), (12, .z), (13, .z), (14, .y), (15, .y), (16, .y)] (fun _ => (.cells #[] 29, Rg.ptr)) (fun c a d v w h => by have h' : _ ∧ _ := h; exact ⟨(Rr.put_defers a d v).symm.trans h'.1, h'.2⟩) (by kernel_rfl) (by kernel_rfl) ?_
      (refine Rr.wr_y (by simp only [List.getElem?_toArray, List.getElem?_cons_succ, List.getElem?_cons_zero]; rfl) (by rfl) ?_
       apply Exists.intro
       refine ⟨fun wz hw _ => ?_, ?_⟩
       · have hcz := hw.cells.1
         go_simp
         (with_reducible exact Rg.up_value)
       simp only [Act.put, List.setIfInBounds_toArray, List.set_cons_zero, List.set_cons_succ])
      (refine Rr.wr_y (by simp only [List.getElem?_toArray, List.getElem?_cons_succ, List.getElem?_cons_zero]; rfl) (by rfl) ?_
       apply Exists.intro
       refine ⟨fun wz hw _ => ?_, ?_⟩
       · have hcz := hw.cells.1
         go_simp
         (with_reducible exact Rg.up_value)
       simp only [Act.put, List.setIfInBounds_toArray, List.set_cons_zero, List.set_cons_succ])
      (refine Rr.wr_y (by simp only [List.getElem?_toArray, List.getElem?_cons_succ, List.getElem?_cons_zero]; rfl) (by rfl) ?_
       apply Exists.intro
       refine ⟨fun wz hw _ => ?_, ?_⟩
       · have hcz := hw.cells.1
         go_simp
         (with_reducible exact Rg.up_value)
       simp only [Act.put, List.setIfInBounds_toArray, List.set_cons_zero, List.set_cons_succ])
      (refine Rr.wr_y (by simp only [List.getElem?_toArray, List.getElem?_cons_succ, List.getElem?_cons_zero]; rfl) (by rfl) ?_
       apply Exists.intro
       refine ⟨fun wz hw _ => ?_, ?_⟩
       · have hcz := hw.cells.1
         go_simp
         (with_reducible exact Rg.up_value)
       simp only [Act.put, List.setIfInBounds_toArray, List.set_cons_zero, List.set_cons_succ])
      (refine Rr.wr_y (by simp only [List.getElem?_toArray, List.getElem?_cons_succ, List.getElem?_cons_zero]; rfl) (by rfl) ?_
       apply Exists.intro
       refine ⟨fun wz hw _ => ?_, ?_⟩
       · have hcz := hw.cells.1
         go_simp
         (with_reducible exact Rg.up_value)
       simp only [Act.put, List.setIfInBounds_toArray, List.set_cons_zero, List.set_cons_succ])
      (refine Rr.wr_y (by simp only [List.getElem?_toArray, List.getElem?_cons_succ, List.getElem?_cons_zero]; rfl) (by rfl) ?_
       apply Exists.intro
       refine ⟨fun wz hw _ => ?_, ?_⟩
       · have hcz := hw.cells.1
         go_simp
         (with_reducible exact Rg.up_value)
       simp only [Act.put, List.setIfInBounds_toArray, List.set_cons_zero, List.set_cons_succ])
      (refine Rr.wr_y (by simp only [List.getElem?_toArray, List.getElem?_cons_succ, List.getElem?_cons_zero]; rfl) (by rfl) ?_
       apply Exists.intro
       refine ⟨fun wz hw _ => ?_, ?_⟩
       · have hcz := hw.cells.1
         go_simp
         (with_reducible exact Rg.up_value)
       simp only [Act.put, List.setIfInBounds_toArray, List.set_cons_zero, List.set_cons_succ])
      (refine Rr.wr_y (by simp only [List.getElem?_toArray, List.getElem?_cons_succ, List.getElem?_cons_zero]; rfl) (by rfl) ?_
       apply Exists.intro
       refine ⟨fun wz hw _ => ?_, ?_⟩
       · have hcz := hw.cells.1
         go_simp
         (with_reducible exact Rg.up_value)
       simp only [Act.put, List.setIfInBounds_toArray, List.set_cons_zero, List.set_cons_succ])
      refine Rr.wr_z (fun v w' => BgR w' v (decide (a1 < 0)) (ofL a1.natAbs)) (by simp only [List.getElem?_toArray, List.getElem?_cons_succ, List.getElem?_cons_zero]; rfl) (by rfl) (fun v w1 w2 h e => by first | exact Rd.ext e h | exact h.ext e) (fun wz hw hh => ?_) (fun u => ?_)
      · have hcz := hw.cells.1
        go_simp
        apply Rr.upR_enter
        (with_reducible refine (HO1.out wz).mono ?_)
        rintro e w3 ⟨v3, rfl, hx3, hr3⟩
        exact ⟨v3, rfl, hx3, hr3⟩
      simp only [Act.put, List.setIfInBounds_toArray, List.set_cons_zero, List.set_cons_succ]
      refine Rr.wr_z (fun v w' => BgR w' v (decide (b1 < 0)) (ofL b1.natAbs)) (by simp only [List.getElem?_toArray, List.getElem?_cons_succ, List.getElem?_cons_zero]; rfl) (by rfl) (fun v w1 w2 h e => by first | exact Rd.ext e h | exact h.ext e) (fun wz hw hh => ?_) (fun u => ?_)
      · have hcz := hw.cells.1
        go_simp
        apply Rr.upR_enter
        (with_reducible refine (HO3.out wz).mono ?_)
        rintro e w3 ⟨v3, rfl, hx3, hr3⟩
        exact ⟨v3, rfl, hx3, hr3⟩
      simp only [Act.put, List.setIfInBounds_toArray, List.set_cons_zero, List.set_cons_succ]
      refine Rr.wr_z (fun v w' => BgR w' v (decide (a1 < 0) != decide (b1 < 0)) (timesL (ofL a1.natAbs) (ofL b1.natAbs))) (by simp only [List.getElem?_toArray, List.getElem?_cons_succ, List.getElem?_cons_zero]; rfl) (by rfl) (fun v w1 w2 h e => by first | exact Rd.ext e h | exact h.ext e) (fun wz hw hh => ?_) (fun u => ?_)
      · have hcz := hw.cells.1
        go_simp
        apply Rr.upR_enter
        (with_reducible refine (HM1.out wz _ _ (hold1 hh) (hold0 hh)).mono ?_)
        rintro e w3 ⟨v3, rfl, hx3, hr3⟩
        exact ⟨v3, rfl, hx3, hr3⟩
      simp only [Act.put, List.setIfInBounds_toArray, List.set_cons_zero, List.set_cons_succ]
      refine Rr.wr_z (fun v w' => BgR w' v (decide (a2 < 0)) (ofL a2.natAbs)) (by simp only [List.getElem?_toArray, List.getElem?_cons_succ, List.getElem?_cons_zero]; rfl) (by rfl) (fun v w1 w2 h e => by first | exact Rd.ext e h | exact h.ext e) (fun wz hw hh => ?_) (fun u => ?_)
      · have hcz := hw.cells.1
        go_simp
        apply Rr.upR_enter
        (with_reducible refine (HO2.out wz).mono ?_)
        rintro e w3 ⟨v3, rfl, hx3, hr3⟩
        exact ⟨v3, rfl, hx3, hr3⟩
      simp only [Act.put, List.setIfInBounds_toArray, List.set_cons_zero, List.set_cons_succ]
      refine Rr.wr_z (fun v w' => BgR w' v (decide (b2 < 0)) (ofL b2.natAbs)) (by simp only [List.getElem?_toArray, List.getElem?_cons_succ, List.getElem?_cons_zero]; rfl) (by rfl) (fun v w1 w2 h e => by first | exact Rd.ext e h | exact h.ext e) (fun wz hw hh => ?_) (fun u => ?_)
      · have hcz := hw.cells.1
        go_simp
        apply Rr.upR_enter
        (with_reducible refine (HO4.out wz).mono ?_)
        rintro e w3 ⟨v3, rfl, hx3, hr3⟩
        exact ⟨v3, rfl, hx3, hr3⟩
      simp only [Act.put, List.setIfInBounds_toArray, List.set_cons_zero, List.set_cons_succ]
      refine Rr.wr_z (fun v w' => BgR w' v (decide (a2 < 0) != decide (b2 < 0)) (timesL (ofL a2.natAbs) (ofL b2.natAbs))) (by simp only [List.getElem?_toArray, List.getElem?_cons_succ, List.getElem?_cons_zero]; rfl) (by rfl) (fun v w1 w2 h e => by first | exact Rd.ext e h | exact h.ext e) (fun wz hw hh => ?_) (fun u => ?_)
      · have hcz := hw.cells.1
        go_simp
        apply Rr.upR_enter
        (with_reducible refine (HM2.out wz _ _ (hold1 hh) (hold0 hh)).mono ?_)
        rintro e w3 ⟨v3, rfl, hx3, hr3⟩
        exact ⟨v3, rfl, hx3, hr3⟩
      simp only [Act.put, List.setIfInBounds_toArray, List.set_cons_zero, List.set_cons_succ]
      refine Rr.wr_y (by simp only [List.getElem?_toArray, List.getElem?_cons_succ, List.getElem?_cons_zero]; rfl) (by rfl) ⟨.tuple #[.agg #[.int .i64 r1, .int .i64 r2], .bool r3], fun wz hw hh => ?_, ?_⟩
      · go_simp
        apply Rg.up_enter
        (with_reducible refine (HLO.out wz _ _ (hold3 hh) (hold0 hh)).mono ?_)
        rintro e w4 ⟨rfl, hb4⟩
        exact ⟨rfl, hb4⟩
      simp only [Act.put, List.setIfInBounds_toArray, List.set_cons_zero, List.set_cons_succ]
      (refine Rr.wr_y (by simp only [List.getElem?_toArray, List.getElem?_cons_succ, List.getElem?_cons_zero]; rfl) (by rfl) ?_
       apply Exists.intro
       refine ⟨fun wz hw _ => ?_, ?_⟩
       · have hcz := hw.cells.1
         go_simp
         (with_reducible exact Rg.up_value)
       simp only [Act.put, List.setIfInBounds_toArray, List.set_cons_zero, List.set_cons_succ])
      (refine Rr.wr_y (by simp only [List.getElem?_toArray, List.getElem?_cons_succ, List.getElem?_cons_zero]; rfl) (by rfl) ?_
       apply Exists.intro
       refine ⟨fun wz hw _ => ?_, ?_⟩
       · have hcz := hw.cells.1
         go_simp
         (with_reducible exact Rg.up_value)
       simp only [Act.put, List.setIfInBounds_toArray, List.set_cons_zero, List.set_cons_succ])
      refine Rr.wr_nil ?_
      intro wy hy hh
      simp only [List.length_cons, List.length_nil, List.drop_succ_cons, List.drop_zero, Nat.reduceAdd]
      have h40 := (HC.out wy (HX3.out.trans hy)).2.2.2.2.2.2
      refine wpList_store_row (hgd := rfl) 26 (.tmp 4) (.tmp 40) rfl p4 (by rfl) #[.int .i64 r1, .int .i64 r2] (by rfl) #[.int .i64 0, .int .i64 0] 26 h40 (by rfl) (by kernel_rfl) (by simp [Value.oneCell']) ?_
      have hbc := setRow_heap wy p4 _ #[.int .i64 r1, .int .i64 r2] 26 _ h40
      have hxc : Ext w (wy.setRow p4 #[.int .i64 r1, .int .i64 r2]) := below_setRow (HX1.out.trans (HX3.out.trans hy)) HP4.out #[.int .i64 r1, .int .i64 r2]
      generalize wy.setRow p4 #[.int .i64 r1, .int .i64 r2] = W9 at *
      obtain ⟨hc9, hf9, hl9⟩ := Rg.cells_of hbc
      clear hh h40 hbc hy c0 c1 cl d0 d1 dl
      go_wp2_with (fail)
      exact bodyPost_ret (v := rbv ((r1, r2), r3)) (by simp [results, Try.results27, go_sem, hc9, hf9]) rfl ⟨by rw [HRES.out], hxc⟩
    · have hsm : (smB a1 && smB a2 && smB b1 && smB b2) = true := HTB.out.symm
      simp only [Bool.and_eq_true, smB_iff] at hsm
      obtain ⟨⟨⟨s1, s2⟩, s3⟩, s4⟩ := hsm
      have b1' := sm_mul s1 s3
      have b2' := sm_mul s2 s4
      have hdp : 0 < a2 * b2 := Int.mul_pos HPA.out HPB.out
      have kw1 : IntKind.i64.wrap (a1 * b1) = a1 * b1 := by rw [IntKind.wrap_i64]; omega
      have kw2 : IntKind.i64.wrap (a2 * b2) = a2 * b2 := by rw [IntKind.wrap_i64]; omega
      have HQ := Lib.hid (fun W => quick_p (a1 * b1) (a2 * b2) (by omega) (by omega) W)
      have HNQ := Lib.hid (quick_norm (n := a1 * b1) hdp (by omega) (by omega))
      clear s1 s2 s3 s4 b1' b2' hdp
      obtain ⟨⟨r1, r2⟩, hnr⟩ : ∃ nr : Int × Int, nr = quickZ (a1 * b1) (a2 * b2) := ⟨_, rfl⟩
      rw [← hnr] at HQ HNQ
      have HRES := Lib.hid (HRR.out.trans HNQ.out)
      clear hnr HRR HNQ
      go_wp2_with (first
        | (go_at_call 51; (with_reducible refine (HTI.out _).mono ?_); rintro e w3 ⟨rfl, hx3⟩; obtain ⟨e0, e1, el, f0, f1, fl, -⟩ := HC.out w3 (HX2.out.trans hx3))
        | (go_at_call 52; (with_reducible refine (HQ.out _).mono ?_); rintro e w9 ⟨rfl, hx9⟩; obtain ⟨hc9, hf9, hl9⟩ := Rg.cells_of (HC.out w9 (HX2.out.trans (hx3.trans hx9))).2.2.2.2.2.2))
      have hp4 := HP4.out
      have hxx := HX1.out.trans (HX2.out.trans (hx3.trans hx9))
      exact bodyPost_ret (v := rbv ((r1, r2), true)) (by simp [results, Try.results27, go_sem, hc9, hf9]) rfl ⟨by rw [HRES.out], (by with_reducible repeat (first | exact Ext.refl _ | assumption | apply Ext.drewN | apply Ext.drew | apply Ext.alloc | (refine Ext.setCell ?_ (by simp <;> omega) _) | (refine Ext.trans ?_ (by assumption))))⟩
end Go.Proofs.Ytgkdeknfmmgbdaa

namespace Go.Proofs.Ytgkdeknfmmgbdaa
set_option linter.unusedVariables false
set_option linter.unusedSimpArgs false
open Go.RowKit

set_option maxRecDepth 100000 in
set_option maxHeartbeats 1000000 in
theorem rAdd_any (a b : Int × Int) (ha : OkR a) (hb : OkR b) (w : World) :
    Calls Try.prog 25 #[rv a, rv b] w fun e w' => e = .returned (rbv (refOp a b (a.1 * b.2 + b.1 * a.2) (a.2 * b.2))) ∧ Ext w w' := by
  have HBO := Lib.hid (fun W => rboth_any a b ha hb W)
  have HTI := Lib.hid (fun W => tiny_any a b W)
  obtain ⟨hxb, h2, h3⟩ := rbox2 (w := w) (a := a) (b := b)
  obtain ⟨W1, hW1⟩ : ∃ W1, W1 = (((w.alloc (.cells #[.int .i64 a.1, .int .i64 a.2] 26)).alloc (.cells #[.int .i64 b.1, .int .i64 b.2] 26)).alloc (.cells #[.int .i64 0, .int .i64 0] 26)) := ⟨_, rfl⟩
  have hx1 : Ext w W1 := by rw [hW1]; exact Ext.alloc hxb _
  have k2 : W1.heap[w.heap.size]? = some (.cells #[.int .i64 a.1, .int .i64 a.2] 26) := by rw [hW1, Below.heap_alloc _ _ _ (Rg.lt_of_heap h2)]; exact h2
  have k3 : W1.heap[w.heap.size + 1]? = some (.cells #[.int .i64 b.1, .int .i64 b.2] 26) := by rw [hW1, Below.heap_alloc _ _ _ (Rg.lt_of_heap h3)]; exact h3
  have k4 : W1.heap[w.heap.size + 1 + 1]? = some (.cells #[.int .i64 0, .int .i64 0] 26) := by rw [hW1]; exact block_new (by simp)
  clear hxb h2 h3
  obtain ⟨a1, a2⟩ := a
  obtain ⟨b1, b2⟩ := b
  simp only at k2 k3 k4 hW1
  have HC : Hid (∀ W, Ext W1 W → W.cell? ⟨w.heap.size, 0, none⟩ = some (.int .i64 a1) ∧ W.cell? ⟨w.heap.size, 1, none⟩ = some (.int .i64 a2) ∧ w.heap.size < W.heap.size ∧ W.cell? ⟨w.heap.size + 1, 0, none⟩ = some (.int .i64 b1) ∧ W.cell? ⟨w.heap.size + 1, 1, none⟩ = some (.int .i64 b2) ∧ w.heap.size + 1 < W.heap.size ∧ W.heap[w.heap.size + 1 + 1]? = some (.cells #[.int .i64 0, .int .i64 0] 26)) := Lib.hid fun W hW => by
    obtain ⟨c0, c1, cl⟩ := rcell (a := (a1, a2)) ((hW.block _ (Rg.lt_of_heap k2)).trans k2)
    obtain ⟨d0, d1, dl⟩ := rcell (a := (b1, b2)) ((hW.block _ (Rg.lt_of_heap k3)).trans k3)
    exact ⟨c0, c1, cl, d0, d1, dl, (hW.block _ (Rg.lt_of_heap k4)).trans k4⟩
  have HX1 := Lib.hid hx1
  have HA := Lib.hid ha; have HB := Lib.hid hb
  clear ha hb k2 k3 k4 hx1
  unfold tinyB at HTI
  simp only at HBO HTI ⊢
  go_enter Try.func25, Try.ntmps25
  go_upto_region 1 with (fail)
  rw [← hW1]
  clear hW1
  obtain ⟨p2, hp2⟩ : ∃ p2, p2 = w.heap.size := ⟨_, rfl⟩
  obtain ⟨p3, hp3⟩ : ∃ p3, p3 = w.heap.size + 1 := ⟨_, rfl⟩
  obtain ⟨p4, hp4⟩ : ∃ p4, p4 = w.heap.size + 1 + 1 := ⟨_, rfl⟩
  rw [← hp4, ← hp3, ← hp2] at HC ⊢
  have HP4 := Lib.hid (show w.heap.size ≤ p4 by omega)
  clear hp2 hp3 hp4
  obtain ⟨c0, c1, cl, d0, d1, dl, -⟩ := HC.out W1 (Ext.refl _)
  obtain ⟨rr, hrr⟩ : ∃ rr, rr = (rightB a1 a2 && rightB b1 b2) := ⟨_, rfl⟩
  rw [← hrr] at HBO
  cases rr
  · have HRES : Hid (refOp (a1, a2) (b1, b2) (a1 * b2 + b1 * a2) (a2 * b2) = ((0, 1), false)) := Lib.hid (if_neg (by rw [← hrr]; simp))
    clear HTI hrr
    go_wp2_with (first
      | (go_at_call 50; (with_reducible refine (HBO.out _).mono ?_); rintro e w2 ⟨rfl, hx2⟩)
      | (go_at_call 29; (with_reducible refine (refOf_any _ _).mono ?_); rintro e w9 ⟨rfl, hx9⟩; obtain ⟨hc9, hf9, hl9⟩ := Rg.cells_of (HC.out w9 (hx2.trans hx9)).2.2.2.2.2.2))
    have hp4 := HP4.out
    have hxx := HX1.out.trans (hx2.trans hx9)
    exact bodyPost_ret (v := rbv ((0, 1), false)) (by simp [results, Try.results25, go_sem, hc9, hf9]) rfl ⟨by rw [HRES.out], (by with_reducible repeat (first | exact Ext.refl _ | assumption | apply Ext.drewN | apply Ext.drew | apply Ext.alloc | (refine Ext.setCell ?_ (by simp <;> omega) _) | (refine Ext.trans ?_ (by assumption))))⟩
  · have hr1 := (Bool.and_eq_true_iff.1 hrr.symm).1
    have hr2 := (Bool.and_eq_true_iff.1 hrr.symm).2
    obtain ⟨ha2, hga⟩ := (rightB_iff _ _).1 hr1
    obtain ⟨hb2, hgb⟩ := (rightB_iff _ _).1 hr2
    have HRR : Hid (refOp (a1, a2) (b1, b2) (a1 * b2 + b1 * a2) (a2 * b2) = normS (a1 * b2 + b1 * a2) (a2 * b2)) := Lib.hid (if_pos hrr.symm)
    clear hrr hr1 hr2 hga hgb
    have HPA := Lib.hid ha2; have HPB := Lib.hid hb2
    clear ha2 hb2
    obtain ⟨tb, htb⟩ : ∃ tb, tb = (smB a1 && smB a2 && smB b1 && smB b2) := ⟨_, rfl⟩
    rw [← htb] at HTI
    have HTB := Lib.hid htb
    clear htb
    go_upto_region 3 with (go_at_call 50; (with_reducible refine (HBO.out _).mono ?_); rintro e w2 ⟨rfl, hx2⟩)
    have HX2 := Lib.hid hx2
    clear c0 c1 cl d0 d1 dl hx2 HBO
    obtain ⟨c0, c1, cl, d0, d1, dl, -⟩ := HC.out w2 HX2.out
    cases tb
    · go_upto_region 5 with (go_at_call 51; (with_reducible refine (HTI.out _).mono ?_); rintro e w3 ⟨rfl, hx3⟩)
      have HX3 := Lib.hid (HX2.out.trans hx3)
      clear c0 c1 cl d0 d1 dl hx3 HX2 HTI
      obtain ⟨c0, c1, cl, d0, d1, dl, -⟩ := HC.out w3 HX3.out
      have HO1 := Lib.hid (fun W => bof_any a1 W HA.out.1 HA.out.2.1)
      have HO2 := Lib.hid (fun W => bof_any a2 W HA.out.2.2.1 HA.out.2.2.2)
      have HO3 := Lib.hid (fun W => bof_any b1 W HB.out.1 HB.out.2.1)
      have HO4 := Lib.hid (fun W => bof_any b2 W HB.out.2.2.1 HB.out.2.2.2)
      have L1 : (ofL (a1.natAbs : Int)).length ≤ 4 := (of_val HA.out.1 HA.out.2.1).2.2.2.1
      have L2 : (ofL (a2.natAbs : Int)).length ≤ 4 := (of_val HA.out.2.2.1 HA.out.2.2.2).2.2.2.1
      have L3 : (ofL (b1.natAbs : Int)).length ≤ 4 := (of_val HB.out.1 HB.out.2.1).2.2.2.1
      have L4 : (ofL (b2.natAbs : Int)).length ≤ 4 := (of_val HB.out.2.2.1 HB.out.2.2.2).2.2.2.1
      obtain ⟨n1, n2, n3⟩ := mul_val (a := a1) (b := b2) ⟨HA.out.1, HA.out.2.1⟩ ⟨HB.out.2.2.1, HB.out.2.2.2⟩
      obtain ⟨o1, o2, o3⟩ := mul_val (a := b1) (b := a2) ⟨HB.out.1, HB.out.2.1⟩ ⟨HA.out.2.2.1, HA.out.2.2.2⟩
      obtain ⟨-, m2, m3⟩ := mul_val (a := a2) (b := b2) ⟨HA.out.2.2.1, HA.out.2.2.2⟩ ⟨HB.out.2.2.1, HB.out.2.2.2⟩
      have hda : (decide (a2 < 0) != decide (b2 < 0)) = false := by rw [decide_eq_false (by have := HPA.out; omega), decide_eq_false (by have := HPB.out; omega)]; rfl
      have hdp : 0 < a2 * b2 := Int.mul_pos HPA.out HPB.out
      have hdv : dv (timesL (ofL a2.natAbs) (ofL b2.natAbs)) = a2 * b2 := by rw [hda] at m2; exact m2
      obtain ⟨-, u2, u3⟩ := sum_val (s := decide (a1 < 0) != decide (b2 < 0)) (t := decide (b1 < 0) != decide (a2 < 0)) n1 o1
      rw [n2, o2] at u2
      have HSU := Lib.hid (fun W v u (hv : BgR W v (decide (a1 < 0) != decide (b2 < 0)) (timesL (ofL a1.natAbs) (ofL b2.natAbs))) (hu : BgR W u (decide (b1 < 0) != decide (a2 < 0)) (timesL (ofL b1.natAbs) (ofL a2.natAbs))) => badd_any (decide (a1 < 0) != decide (b2 < 0)) (decide (b1 < 0) != decide (a2 < 0)) (timesL (ofL a1.natAbs) (ofL b2.natAbs)) (timesL (ofL b1.natAbs) (ofL a2.natAbs)) W v u hv hu (by omega) (by omega))
      obtain ⟨⟨bs, bl⟩, hbs⟩ : ∃ x : Bool × List Int, x = bgSum (decide (a1 < 0) != decide (b2 < 0)) (decide (b1 < 0) != decide (a2 < 0)) (timesL (ofL a1.natAbs) (ofL b2.natAbs)) (timesL (ofL b1.natAbs) (ofL a2.natAbs)) := ⟨_, rfl⟩
      rw [← hbs] at u2 u3 HSU
      simp only at u2 u3 HSU
      clear hbs
      have HLO := Lib.hid (fun W v u (hv : BgR W v bs bl) (hu : BgR W u (decide (a2 < 0) != decide (b2 < 0)) (timesL (ofL a2.natAbs) (ofL b2.natAbs))) => blowest_any _ _ _ _ W v u hv hu (by omega) (by omega) (by rw [hdv]; exact hdp))
      rw [hdv, show sgn (bs != (decide (a2 < 0) != decide (b2 < 0))) (dv bl) = a1 * b2 + b1 * a2 by rw [hda, show ∀ x : Bool, (x != false) = x by intro x; cases x <;> rfl]; exact u2] at HLO
      have HM1 := Lib.hid (fun W v u (hv : BgR W v (decide (a1 < 0)) (ofL a1.natAbs)) (hu : BgR W u (decide (b2 < 0)) (ofL b2.natAbs)) => bmul_any (decide (a1 < 0)) (decide (b2 < 0)) (ofL a1.natAbs) (ofL b2.natAbs) W v u hv hu (by omega) (by omega))
      have HM3 := Lib.hid (fun W v u (hv : BgR W v (decide (b1 < 0)) (ofL b1.natAbs)) (hu : BgR W u (decide (a2 < 0)) (ofL a2.natAbs)) => bmul_any (decide (b1 < 0)) (decide (a2 < 0)) (ofL b1.natAbs) (ofL a2.natAbs) W v u hv hu (by omega) (by omega))
      have HM2 := Lib.hid (fun W v u (hv : BgR W v (decide (a2 < 0)) (ofL a2.natAbs)) (hu : BgR W u (decide (b2 < 0)) (ofL b2.natAbs)) => bmul_any (decide (a2 < 0)) (decide (b2 < 0)) (ofL a2.natAbs) (ofL b2.natAbs) W v u hv hu (by omega) (by omega))
      clear L1 L2 L3 L4 n1 n2 n3 o1 o2 o3 m2 m3 u2 u3 hda hdp hdv
      obtain ⟨⟨⟨r1, r2⟩, r3⟩, hnr⟩ : ∃ nr : (Int × Int) × Bool, nr = normS (a1 * b2 + b1 * a2) (a2 * b2) := ⟨_, rfl⟩
      rw [← hnr] at HLO
      have HRES := Lib.hid (HRR.out.trans hnr.symm)
      clear hnr HRR
      simp only at HLO
      refine Rr.wp_regionE [24] [(0, .y), (1, .y), (3, .y), (4, .y), (7, .y), (8, .y), (10, .y), (11, .y), (15, .y), (16, .y), (18, .y), (19, .y), (2, .z), (5, .z), (6, .z), (9, .z), (12, .z), (13, .z), (14, .z), (17, .z), (20, .z), (21, .z), (22, .y), (23, .y), (24, .y)] (fun _ => (.cells #[] 29, Rg.ptr)) (fun c a d v w h => by have h' : _ ∧ _ := h; exact ⟨(Rr.put_defers a d v).symm.trans h'.1, h'.2⟩) (by kernel_rfl) (by kernel_rfl) ?_
      (refine Rr.wr_y (by simp only [List.getElem?_toArray, List.getElem?_cons_succ, List.getElem?_cons_zero]; rfl) (by rfl) ?_
       apply Exists.intro
       refine ⟨fun wz hw _ => ?_, ?_⟩
       · have hcz := hw.cells.1
         go_simp
         (with_reducible exact Rg.up_value)
       simp only [Act.put, List.setIfInBounds_toArray, List.set_cons_zero, List.set_cons_succ])
      (refine Rr.wr_y (by simp only [List.getElem?_toArray, List.getElem?_cons_succ, List.getElem?_cons_zero]; rfl) (by rfl) ?_
       apply Exists.intro
       refine ⟨fun wz hw _ => ?_, ?_⟩
       · have hcz := hw.cells.1
         go_simp
         (with_reducible exact Rg.up_value)
       simp only [Act.put, List.setIfInBounds_toArray, List.set_cons_zero, List.set_cons_succ])
      (refine Rr.wr_y (by simp only [List.getElem?_toArray, List.getElem?_cons_succ, List.getElem?_cons_zero]; rfl) (by rfl) ?_
       apply Exists.intro
       refine ⟨fun wz hw _ => ?_, ?_⟩
       · have hcz := hw.cells.1
         go_simp
         (with_reducible exact Rg.up_value)
       simp only [Act.put, List.setIfInBounds_toArray, List.set_cons_zero, List.set_cons_succ])
      (refine Rr.wr_y (by simp only [List.getElem?_toArray, List.getElem?_cons_succ, List.getElem?_cons_zero]; rfl) (by rfl) ?_
       apply Exists.intro
       refine ⟨fun wz hw _ => ?_, ?_⟩
       · have hcz := hw.cells.1
         go_simp
         (with_reducible exact Rg.up_value)
       simp only [Act.put, List.setIfInBounds_toArray, List.set_cons_zero, List.set_cons_succ])
      (refine Rr.wr_y (by simp only [List.getElem?_toArray, List.getElem?_cons_succ, List.getElem?_cons_zero]; rfl) (by rfl) ?_
       apply Exists.intro
       refine ⟨fun wz hw _ => ?_, ?_⟩
       · have hcz := hw.cells.1
         go_simp
         (with_reducible exact Rg.up_value)
       simp only [Act.put, List.setIfInBounds_toArray, List.set_cons_zero, List.set_cons_succ])
      (refine Rr.wr_y (by simp only [List.getElem?_toArray, List.getElem?_cons_succ, List.getElem?_cons_zero]; rfl) (by rfl) ?_
       apply Exists.intro
       refine ⟨fun wz hw _ => ?_, ?_⟩
       · have hcz := hw.cells.1
         go_simp
         (with_reducible exact Rg.up_value)
       simp only [Act.put, List.setIfInBounds_toArray, List.set_cons_zero, List.set_cons_succ])
      (refine Rr.wr_y (by simp only [List.getElem?_toArray, List.getElem?_cons_succ, List.getElem?_cons_zero]; rfl) (by rfl) ?_
       apply Exists.intro
       refine ⟨fun wz hw _ => ?_, ?_⟩
       · have hcz := hw.cells.1
         go_simp
         (with_reducible exact Rg.up_value)
       simp only [Act.put, List.setIfInBounds_toArray, List.set_cons_zero, List.set_cons_succ])
      (refine Rr.wr_y (by simp only [List.getElem?_toArray, List.getElem?_cons_succ, List.getElem?_cons_zero]; rfl) (by rfl) ?_
       apply Exists.intro
       refine ⟨fun wz hw _ => ?_, ?_⟩
       · have hcz := hw.cells.1
         go_simp
         (with_reducible exact Rg.up_value)
       simp only [Act.put, List.setIfInBounds_toArray, List.set_cons_zero, List.set_cons_succ])
      (refine Rr.wr_y (by simp only [List.getElem?_toArray, List.getElem?_cons_succ, List.getElem?_cons_zero]; rfl) (by rfl) ?_
       apply Exists.intro
       refine ⟨fun wz hw _ => ?_, ?_⟩
       · have hcz := hw.cells.1
         go_simp
         (with_reducible exact Rg.up_value)
       simp only [Act.put, List.setIfInBounds_toArray, List.set_cons_zero, List.set_cons_succ])
      (refine Rr.wr_y (by simp only [List.getElem?_toArray, List.getElem?_cons_succ, List.getElem?_cons_zero]; rfl) (by rfl) ?_
       apply Exists.intro
       refine ⟨fun wz hw _ => ?_, ?_⟩
       · have hcz := hw.cells.1
         go_simp
         (with_reducible exact Rg.up_value)
       simp only [Act.put, List.setIfInBounds_toArray, List.set_cons_zero, List.set_cons_succ])
      (refine Rr.wr_y (by simp only [List.getElem?_toArray, List.getElem?_cons_succ, List.getElem?_cons_zero]; rfl) (by rfl) ?_
       apply Exists.intro
       refine ⟨fun wz hw _ => ?_, ?_⟩
       · have hcz := hw.cells.1
         go_simp
         (with_reducible exact Rg.up_value)
       simp only [Act.put, List.setIfInBounds_toArray, List.set_cons_zero, List.set_cons_succ])
      (refine Rr.wr_y (by simp only [List.getElem?_toArray, List.getElem?_cons_succ, List.getElem?_cons_zero]; rfl) (by rfl) ?_
       apply Exists.intro
       refine ⟨fun wz hw _ => ?_, ?_⟩
       · have hcz := hw.cells.1
         go_simp
         (with_reducible exact Rg.up_value)
       simp only [Act.put, List.setIfInBounds_toArray, List.set_cons_zero, List.set_cons_succ])
      refine Rr.wr_z (fun v w' => BgR w' v (decide (a1 < 0)) (ofL a1.natAbs)) (by simp only [List.getElem?_toArray, List.getElem?_cons_succ, List.getElem?_cons_zero]; rfl) (by rfl) (fun v w1 w2 h e => by first | exact Rd.ext e h | exact h.ext e) (fun wz hw hh => ?_) (fun u => ?_)
      · have hcz := hw.cells.1
        go_simp
        apply Rr.upR_enter
        (with_reducible refine (HO1.out wz).mono ?_)
        rintro e w3 ⟨v3, rfl, hx3, hr3⟩
        exact ⟨v3, rfl, hx3, hr3⟩
      simp only [Act.put, List.setIfInBounds_toArray, List.set_cons_zero, List.set_cons_succ]
      refine Rr.wr_z (fun v w' => BgR w' v (decide (b2 < 0)) (ofL b2.natAbs)) (by simp only [List.getElem?_toArray, List.getElem?_cons_succ, List.getElem?_cons_zero]; rfl) (by rfl) (fun v w1 w2 h e => by first | exact Rd.ext e h | exact h.ext e) (fun wz hw hh => ?_) (fun u => ?_)
      · have hcz := hw.cells.1
        go_simp
        apply Rr.upR_enter
        (with_reducible refine (HO4.out wz).mono ?_)
        rintro e w3 ⟨v3, rfl, hx3, hr3⟩
        exact ⟨v3, rfl, hx3, hr3⟩
      simp only [Act.put, List.setIfInBounds_toArray, List.set_cons_zero, List.set_cons_succ]
      refine Rr.wr_z (fun v w' => BgR w' v (decide (a1 < 0) != decide (b2 < 0)) (timesL (ofL a1.natAbs) (ofL b2.natAbs))) (by simp only [List.getElem?_toArray, List.getElem?_cons_succ, List.getElem?_cons_zero]; rfl) (by rfl) (fun v w1 w2 h e => by first | exact Rd.ext e h | exact h.ext e) (fun wz hw hh => ?_) (fun u => ?_)
      · have hcz := hw.cells.1
        go_simp
        apply Rr.upR_enter
        (with_reducible refine (HM1.out wz _ _ (hold1 hh) (hold0 hh)).mono ?_)
        rintro e w3 ⟨v3, rfl, hx3, hr3⟩
        exact ⟨v3, rfl, hx3, hr3⟩
      simp only [Act.put, List.setIfInBounds_toArray, List.set_cons_zero, List.set_cons_succ]
      refine Rr.wr_z (fun v w' => BgR w' v (decide (b1 < 0)) (ofL b1.natAbs)) (by simp only [List.getElem?_toArray, List.getElem?_cons_succ, List.getElem?_cons_zero]; rfl) (by rfl) (fun v w1 w2 h e => by first | exact Rd.ext e h | exact h.ext e) (fun wz hw hh => ?_) (fun u => ?_)
      · have hcz := hw.cells.1
        go_simp
        apply Rr.upR_enter
        (with_reducible refine (HO3.out wz).mono ?_)
        rintro e w3 ⟨v3, rfl, hx3, hr3⟩
        exact ⟨v3, rfl, hx3, hr3⟩
      simp only [Act.put, List.setIfInBounds_toArray, List.set_cons_zero, List.set_cons_succ]
      refine Rr.wr_z (fun v w' => BgR w' v (decide (a2 < 0)) (ofL a2.natAbs)) (by simp only [List.getElem?_toArray, List.getElem?_cons_succ, List.getElem?_cons_zero]; rfl) (by rfl) (fun v w1 w2 h e => by first | exact Rd.ext e h | exact h.ext e) (fun wz hw hh => ?_) (fun u => ?_)
      · have hcz := hw.cells.1
        go_simp
        apply Rr.upR_enter
        (with_reducible refine (HO2.out wz).mono ?_)
        rintro e w3 ⟨v3, rfl, hx3, hr3⟩
        exact ⟨v3, rfl, hx3, hr3⟩
      simp only [Act.put, List.setIfInBounds_toArray, List.set_cons_zero, List.set_cons_succ]
      refine Rr.wr_z (fun v w' => BgR w' v (decide (b1 < 0) != decide (a2 < 0)) (timesL (ofL b1.natAbs) (ofL a2.natAbs))) (by simp only [List.getElem?_toArray, List.getElem?_cons_succ, List.getElem?_cons_zero]; rfl) (by rfl) (fun v w1 w2 h e => by first | exact Rd.ext e h | exact h.ext e) (fun wz hw hh => ?_) (fun u => ?_)
      · have hcz := hw.cells.1
        go_simp
        apply Rr.upR_enter
        (with_reducible refine (HM3.out wz _ _ (hold1 hh) (hold0 hh)).mono ?_)
        rintro e w3 ⟨v3, rfl, hx3, hr3⟩
        exact ⟨v3, rfl, hx3, hr3⟩
      simp only [Act.put, List.setIfInBounds_toArray, List.set_cons_zero, List.set_cons_succ]
      refine Rr.wr_z (fun v w' => BgR w' v bs bl) (by simp only [List.getElem?_toArray, List.getElem?_cons_succ, List.getElem?_cons_zero]; rfl) (by rfl) (fun v w1 w2 h e => by first | exact Rd.ext e h | exact h.ext e) (fun wz hw hh => ?_) (fun u => ?_)
      · have hcz := hw.cells.1
        go_simp
        apply Rr.upR_enter
        (with_reducible refine (HSU.out wz _ _ (hold3 hh) (hold0 hh)).mono ?_)
        rintro e w3 ⟨v3, rfl, hx3, hr3⟩
        exact ⟨v3, rfl, hx3, hr3⟩
      simp only [Act.put, List.setIfInBounds_toArray, List.set_cons_zero, List.set_cons_succ]
      refine Rr.wr_z (fun v w' => BgR w' v (decide (a2 < 0)) (ofL a2.natAbs)) (by simp only [List.getElem?_toArray, List.getElem?_cons_succ, List.getElem?_cons_zero]; rfl) (by rfl) (fun v w1 w2 h e => by first | exact Rd.ext e h | exact h.ext e) (fun wz hw hh => ?_) (fun u => ?_)
      · have hcz := hw.cells.1
        go_simp
        apply Rr.upR_enter
        (with_reducible refine (HO2.out wz).mono ?_)
        rintro e w3 ⟨v3, rfl, hx3, hr3⟩
        exact ⟨v3, rfl, hx3, hr3⟩
      simp only [Act.put, List.setIfInBounds_toArray, List.set_cons_zero, List.set_cons_succ]
      refine Rr.wr_z (fun v w' => BgR w' v (decide (b2 < 0)) (ofL b2.natAbs)) (by simp only [List.getElem?_toArray, List.getElem?_cons_succ, List.getElem?_cons_zero]; rfl) (by rfl) (fun v w1 w2 h e => by first | exact Rd.ext e h | exact h.ext e) (fun wz hw hh => ?_) (fun u => ?_)
      · have hcz := hw.cells.1
        go_simp
        apply Rr.upR_enter
        (with_reducible refine (HO4.out wz).mono ?_)
        rintro e w3 ⟨v3, rfl, hx3, hr3⟩
        exact ⟨v3, rfl, hx3, hr3⟩
      simp only [Act.put, List.setIfInBounds_toArray, List.set_cons_zero, List.set_cons_succ]
      refine Rr.wr_z (fun v w' => BgR w' v (decide (a2 < 0) != decide (b2 < 0)) (timesL (ofL a2.natAbs) (ofL b2.natAbs))) (by simp only [List.getElem?_toArray, List.getElem?_cons_succ, List.getElem?_cons_zero]; rfl) (by rfl) (fun v w1 w2 h e => by first | exact Rd.ext e h | exact h.ext e) (fun wz hw hh => ?_) (fun u => ?_)
      · have hcz := hw.cells.1
        go_simp
        apply Rr.upR_enter
        (with_reducible refine (HM2.out wz _ _ (hold1 hh) (hold0 hh)).mono ?_)
        rintro e w3 ⟨v3, rfl, hx3, hr3⟩
        exact ⟨v3, rfl, hx3, hr3⟩
      simp only [Act.put, List.setIfInBounds_toArray, List.set_cons_zero, List.set_cons_succ]
      refine Rr.wr_y (by simp only [List.getElem?_toArray, List.getElem?_cons_succ, List.getElem?_cons_zero]; rfl) (by rfl) ⟨.tuple #[.agg #[.int .i64 r1, .int .i64 r2], .bool r3], fun wz hw hh => ?_, ?_⟩
      · go_simp
        apply Rg.up_enter
        (with_reducible refine (HLO.out wz _ _ (hold3 hh) (hold0 hh)).mono ?_)
        rintro e w4 ⟨rfl, hb4⟩
        exact ⟨rfl, hb4⟩
      simp only [Act.put, List.setIfInBounds_toArray, List.set_cons_zero, List.set_cons_succ]
      (refine Rr.wr_y (by simp only [List.getElem?_toArray, List.getElem?_cons_succ, List.getElem?_cons_zero]; rfl) (by rfl) ?_
       apply Exists.intro
       refine ⟨fun wz hw _ => ?_, ?_⟩
       · have hcz := hw.cells.1
         go_simp
         (with_reducible exact Rg.up_value)
       simp only [Act.put, List.setIfInBounds_toArray, List.set_cons_zero, List.set_cons_succ])
      (refine Rr.wr_y (by simp only [List.getElem?_toArray, List.getElem?_cons_succ, List.getElem?_cons_zero]; rfl) (by rfl) ?_
       apply Exists.intro
       refine ⟨fun wz hw _ => ?_, ?_⟩
       · have hcz := hw.cells.1
         go_simp
         (with_reducible exact Rg.up_value)
       simp only [Act.put, List.setIfInBounds_toArray, List.set_cons_zero, List.set_cons_succ])
      refine Rr.wr_nil ?_
      intro wy hy hh
      simp only [List.length_cons, List.length_nil, List.drop_succ_cons, List.drop_zero, Nat.reduceAdd]
      have h40 := (HC.out wy (HX3.out.trans hy)).2.2.2.2.2.2
      refine wpList_store_row (hgd := rfl) 26 (.tmp 4) (.tmp 54) rfl p4 (by rfl) #[.int .i64 r1, .int .i64 r2] (by rfl) #[.int .i64 0, .int .i64 0] 26 h40 (by rfl) (by kernel_rfl) (by simp [Value.oneCell']) ?_
      have hbc := setRow_heap wy p4 _ #[.int .i64 r1, .int .i64 r2] 26 _ h40
      have hxc : Ext w (wy.setRow p4 #[.int .i64 r1, .int .i64 r2]) := below_setRow (HX1.out.trans (HX3.out.trans hy)) HP4.out #[.int .i64 r1, .int .i64 r2]
      generalize wy.setRow p4 #[.int .i64 r1, .int .i64 r2] = W9 at *
      obtain ⟨hc9, hf9, hl9⟩ := Rg.cells_of hbc
      clear hh h40 hbc hy c0 c1 cl d0 d1 dl
      go_wp2_with (fail)
      exact bodyPost_ret (v := rbv ((r1, r2), r3)) (by simp [results, Try.results25, go_sem, hc9, hf9]) rfl ⟨by rw [HRES.out], hxc⟩
    · have hsm : (smB a1 && smB a2 && smB b1 && smB b2) = true := HTB.out.symm
      simp only [Bool.and_eq_true, smB_iff] at hsm
      obtain ⟨⟨⟨s1, s2⟩, s3⟩, s4⟩ := hsm
      have b1' := sm_mul s1 s4
      have b3' := sm_mul s3 s2
      have b2' := sm_mul s2 s4
      have hdp : 0 < a2 * b2 := Int.mul_pos HPA.out HPB.out
      have kw1 : IntKind.i64.wrap (a1 * b2) = a1 * b2 := by rw [IntKind.wrap_i64]; omega
      have kw3 : IntKind.i64.wrap (b1 * a2) = b1 * a2 := by rw [IntKind.wrap_i64]; omega
      have kw4 : IntKind.i64.wrap (a1 * b2 + b1 * a2) = a1 * b2 + b1 * a2 := by rw [IntKind.wrap_i64]; omega
      have kw2 : IntKind.i64.wrap (a2 * b2) = a2 * b2 := by rw [IntKind.wrap_i64]; omega
      have HQ := Lib.hid (fun W => quick_p (a1 * b2 + b1 * a2) (a2 * b2) (by omega) (by omega) W)
      have HNQ := Lib.hid (quick_norm (n := a1 * b2 + b1 * a2) hdp (by omega) (by omega))
      clear s1 s2 s3 s4 b1' b2' b3' hdp
      obtain ⟨⟨r1, r2⟩, hnr⟩ : ∃ nr : Int × Int, nr = quickZ (a1 * b2 + b1 * a2) (a2 * b2) := ⟨_, rfl⟩
      rw [← hnr] at HQ HNQ
      have HRES := Lib.hid (HRR.out.trans HNQ.out)
      clear hnr HRR HNQ
      go_wp2_with (first
        | (go_at_call 51; (with_reducible refine (HTI.out _).mono ?_); rintro e w3 ⟨rfl, hx3⟩; obtain ⟨e0, e1, el, f0, f1, fl, -⟩ := HC.out w3 (HX2.out.trans hx3))
        | (go_at_call 52; (with_reducible refine (HQ.out _).mono ?_); rintro e w9 ⟨rfl, hx9⟩; obtain ⟨hc9, hf9, hl9⟩ := Rg.cells_of (HC.out w9 (HX2.out.trans (hx3.trans hx9))).2.2.2.2.2.2))
      have hp4 := HP4.out
      have hxx := HX1.out.trans (HX2.out.trans (hx3.trans hx9))
      exact bodyPost_ret (v := rbv ((r1, r2), true)) (by simp [results, Try.results25, go_sem, hc9, hf9]) rfl ⟨by rw [HRES.out], (by with_reducible repeat (first | exact Ext.refl _ | assumption | apply Ext.drewN | apply Ext.drew | apply Ext.alloc | (refine Ext.setCell ?_ (by simp <;> omega) _) | (refine Ext.trans ?_ (by assumption))))⟩
end Go.Proofs.Ytgkdeknfmmgbdaa
