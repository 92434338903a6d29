/-
  InterestOwn walked. Conditions: the arguments are opened.
-/
import Derived.Test.YtlekdhhgjhakgaaLwA
import Derived.Test.YtlekdhhgjhakgaaMkF
import Derived.Test.YtlekdhhgjhakgaaMkD
namespace Go.Proofs.Ytlekdhhgjhakgaa
set_option linter.unusedVariables false
set_option linter.unusedSimpArgs false
open Go.RowKit
theorem OS.kxT {B bn T : Nat} {w w' : World} {c0 c1 c2 c3 c4 c5 : Value} {s : Su} {cs : Array Value} (h : OS B w c0 c1 c2 c3 c4 c5 s) (hb : w.heap[bn]? = some (.cells cs T)) (k : KX bn w w') (h1 : 50 ≠ T) (h2 : 33 ≠ T) (h3 : 36 ≠ T) : OS B w' c0 c1 c2 c3 c4 c5 s :=
  ⟨k.row hb h.ps h1, k.row hb h.hs h2, k.row hb h.rs h3, h.q, h.se, h.lb, h.ok⟩
/-- A row of duties that is being cleared. -/
def ZR (g n : Nat) (W : World) : Prop := ∃ cs, W.heap[g]? = some (.cells cs 56) ∧ ∀ j, j < n * 2 → ∃ z, cs[j]? = some (.int .i64 z)
theorem ZR.set {g n j : Nat} {z : Int} {W : World} (h : ZR g n W) : ZR g n (W.setCell ⟨g, j, none⟩ (.int .i64 z)) := by
  obtain ⟨cs, h1, h2⟩ := h
  refine ⟨_, heap_setCell_row _ h1, fun i hi => ?_⟩
  rw [Array.getElem?_setIfInBounds]
  obtain ⟨y, hy⟩ := h2 i hi
  by_cases e : j = i
  · subst e
    rw [if_pos rfl, if_pos (Array.getElem?_eq_some_iff.1 hy).1]
    exact ⟨z, rfl⟩
  · rw [if_neg e]
    exact ⟨y, hy⟩
theorem KX.set {bn j : Nat} {w w' : World} (h : KX bn w w') (v : Value) : KX bn w (w'.setCell ⟨bn, j, none⟩ v) :=
  ⟨h.os, h.tape, h.output, by rw [World.size_setCell]; exact h.size, fun k hk hne => (heap_setCell_other _ fun e => hne (by rw [e])).trans (h.block k hk hne)⟩
theorem zr_row {B g n c : Nat} {W : World} {l : List (Int × Int)} (h : W.ownsRow B 56 2 (.slice (some ⟨g, 0, none⟩) n c) l.length (l.flatMap reC)) : ZR g l.length W := by
  rcases id h.2 with ⟨h1, -⟩ | ⟨g', cap, cur, hv, hb, hg, h1, h2, h3, h4⟩
  · cases h1
  · injection hv with e1 e2 e3
    injection e1 with e1
    injection e1 with e1
    subst e1 e2 e3
    refine ⟨cur, hg, fun j hj => ?_⟩
    have h5 := World.ownsRow.cellAt h j hj
    rw [cell_of_row W g j _ _ _ hg] at h5
    have hl : (l.flatMap reC).length = l.length * 2 := flat_len (cs := reC) (sz := 2) (fun _ => rfl) l
    rw [List.getElem?_eq_getElem (by omega)] at h5
    have hm : (l.flatMap reC)[j]'(by omega) ∈ l.flatMap reC := List.getElem_mem _
    obtain ⟨r, -, hr⟩ := List.mem_flatMap.1 hm
    replace hr : (l.flatMap reC)[j]'(by omega) ∈ [Value.int .i64 r.1, Value.int .i64 r.2] := hr
    rcases List.mem_cons.1 hr with e | hr
    · exact ⟨r.1, by rw [h5, e]⟩
    · exact ⟨r.2, by rw [h5, List.mem_singleton.1 hr]⟩
set_option maxRecDepth 100000 in
set_option maxHeartbeats 8000000 in
theorem own_walk (A0 A1 : Option Addr) (n0 n1 : Nat) (xs ys : List Int) (W : World) (h0 : IRd W (.slice A0 xs.length n0) xs) (h1 : IRd W (.slice A1 ys.length n1) ys) :
    Calls Try.prog 10 #[.slice A0 xs.length n0, .slice A1 ys.length n1] W fun e W' => e = .returned (.bool true) ∧ Ext W W' := by
  obtain ⟨s, hs⟩ : ∃ s, s = madS xs := ⟨_, rfl⟩
  obtain ⟨bs, hbs⟩ : ∃ bs, bs = bidL ys := ⟨_, rfl⟩
  have HMA : Hid (∀ wz, Ext W wz → Calls Try.prog 12 #[.slice A0 xs.length n0] wz fun e w' => ∃ c0 c1 c2 c3 c4 c5, e = .returned (.agg #[c0, c1, c2, c3, c4, c5]) ∧ OS wz.heap.size w' c0 c1 c2 c3 c4 c5 s ∧ Ext wz w' ∧ MS s 8 7 5) := Lib.hid fun wz hz => by rw [hs]; exact MadeF_any _ xs wz (h0.ext hz)
  have HBD : Hid (∀ wz, Ext W wz → Calls Try.prog 18 #[.slice A1 ys.length n1] wz fun e w' => ∃ v', e = .returned v' ∧ w'.ownsRow wz.heap.size 3 1 v' bs.length (bs.flatMap celI) ∧ Ext wz w' ∧ BdL bs 5) := Lib.hid fun wz hz => by rw [hbs]; exact BidF_any _ ys wz (h1.ext hz)
  clear hs hbs h0 h1
  go_enter Try.func10, Try.ntmps10
  go_upto_region 2 with (go_at_call 11; (with_reducible refine (sanity_any _).mono ?_); rintro e w1 ⟨rfl, hx1⟩)
  have HX1 := Lib.hid hx1
  have HM1 := Lib.hid (HMA.out w1 hx1)
  clear hx1
  go_upto_region 3 with (go_at_call 12; (with_reducible refine HM1.out.mono ?_); rintro e w2 ⟨c0, c1, c2, c3, c4, c5, rfl, hos, hx2, hms⟩; obtain ⟨a0, p0, z1, a2, p2, a3, p3, z4, z5, rfl, rfl, rfl, rfl, rfl, rfl⟩ := hos.form)
  have HX2 : Hid (Ext W w2) := Lib.hid (HX1.out.trans hx2)
  have HS := Lib.hid (hos.box hx2)
  clear hos hms hx2 HM1
  obtain ⟨D, hD⟩ : ∃ D, D = w2.heap.size := ⟨_, rfl⟩
  obtain ⟨va, hva⟩ : ∃ va, va = Value.slice a0 s.ps.length p0 := ⟨_, rfl⟩
  obtain ⟨vb, hvb⟩ : ∃ vb, vb = Value.slice a2 s.hs.length p2 := ⟨_, rfl⟩
  obtain ⟨vc, hvc⟩ : ∃ vc, vc = Value.slice a3 s.rs.length p3 := ⟨_, rfl⟩
  rw [← hD, ← hva, ← hvb, ← hvc] at HS ⊢
  clear hD hva hvb hvc
  generalize w2.alloc (.cells #[va, .int .i64 z1, vb, vc, .int .i64 z4, .int .i64 z5] 28) = w3 at *
  have HX3 : Hid (Ext W w3) := Lib.hid (HX1.out.trans HS.out.low)
  have HBD3 := Lib.hid (HBD.out w3 HX3.out)
  go_upto_region 4 with (go_at_call 18; (with_reducible refine HBD3.out.mono ?_); rintro e w4 ⟨bv, rfl, hrb, hx4, hbl⟩; obtain ⟨bA, bc, rfl⟩ := row_formG hrb)
  have hbl5 := hbl.len
  have HBO := Lib.hid hbl.ok
  have HRB := Lib.hid hrb
  have HS4 := Lib.hid (HS.out.ext hx4)
  have HX4 : Hid (Ext W w4) := Lib.hid (HX3.out.trans hx4)
  clear hrb hx4 hbl HBD3 HS HX2 HX1
  have HIB := Lib.hid (ird_row HRB.out HBO.out (by omega))
  have HSU := Lib.hid HS4.out.os.su
  have HA := Lib.hid (assign_all _ _ _ _ _ _ _ s bs 1 w4 HSU.out HIB.out (by omega))
  obtain ⟨s0, s1, s2, s3, s4, s5⟩ := HS4.out.c
  go_upto_region 5 with (first | (go_at_call 19; (with_reducible refine HA.out.mono ?_); rintro e w5 ⟨av, rfl, hx5, hra⟩; obtain ⟨aA, ac, rfl⟩ := row_formG hra))
  clear s0 s1 s2 s3 s4 s5 HA
  have HX5 := Lib.hid hx5; have HRA := Lib.hid hra
  have hall := (asgL_len (s := s) (bs := bs) (each := 1)).1
  have HAO := Lib.hid (asgL_ok (each := 1) HSU.out.ok HBO.out)
  have HER : Hid (∀ wz c0 c1 c2 c3 c4 c5 bv, Ext W wz → SuV wz c0 c1 c2 c3 c4 c5 s → IRd wz bv bs → Calls Try.prog 19 #[.agg #[c0, c1, c2, c3, c4, c5], bv, .int .i64 1] wz fun e w' => ∃ v, e = .returned (.tuple #[v, .int .i64 (openE s bs 1)]) ∧ Ext wz w' ∧ SR reC 2 w' v (asgL s bs 1)) := Lib.hid fun wz c0 c1 c2 c3 c4 c5 bv _ h1 h2 => (assign_all c0 c1 c2 c3 c4 c5 bv s bs 1 wz h1 h2 (by omega)).mono fun e w' ⟨v, e1, e2, e3⟩ => ⟨v, e1, e2, sr_row e3 (by omega)⟩
  have HCK : Hid (∀ wz dv, Ext w4 wz → SR reC 2 wz dv (asgL s bs 1) → Calls Try.prog 24 #[.agg #[va, .int .i64 z1, vb, vc, .int .i64 z4, .int .i64 z5], .slice bA bs.length bc, .int .i64 1, dv] wz fun e w' => e = .returned (.bool (chkF s bs 1 (ldF s bs 1) (asgL s bs 1))) ∧ Ext wz w') := Lib.hid fun wz dv hz hd => check_all _ _ _ _ _ _ _ dv s bs 1 _ wz (HSU.out.ext hz) (HIB.out.ext hz) (by omega) hd HAO.out (by omega)
  generalize asgL s bs 1 = l at *
  generalize openE s bs 1 = er at *
  generalize chkF s bs 1 (ldF s bs 1) l = ck at *
  clear hra
  have hxa : Ext w5 (w5.alloc (.cells #[] 56)) := Ext.alloc (Ext.refl _) _
  have hown := own_lit (B := w5.heap.size) (n := 0) (sz := 2) (xs := [].append (([] : List (Int × Int)).flatMap reC)) (Nat.le_refl _) (alloc_at w5 (.cells #[] 56)) rfl (by decide)
  have hsrc := (own_src (row_ext HRA.out hxa)).imp List.length_eq_zero_iff.1 id
  have hll : ([] : List (Int × Int)).length + l.length ≤ 1000000 := by simp; omega
  have hsz : w5.heap.size ≤ (w5.alloc (.cells #[] 56)).heap.size := hxa.size
  have HXA := Lib.hid hxa
  clear hxa
  go_upto_region 6 with (at_builtin; (refine append_rows (cs := reC) (z := .agg #[.int .i64 0, .int .i64 0]) 42 56 16 Try.underlying42 (by kernel_rfl) (by rfl) (by decide) (by decide) rfl (.tmp 27) (.tmp 28) rfl w5.heap.size (.slice (some ⟨w5.heap.size, 0, none⟩) 0 0) [] (by rfl) hown (fun _ => ⟨rfl, by simp [reC, Value.oneCell']⟩) aA ac l (by rfl) hsrc hll hsz ?_; intro v7 w7 hr7 hg7))
  rw [List.nil_append] at hr7
  have HRK := Lib.hid hr7
  have HX7 : Hid (Ext w5 w7) := Lib.hid (row_grown HXA.out hown (Nat.le_refl _) hg7)
  clear hr7 hg7 hown hsrc hll hsz HXA hx5
  obtain ⟨kA, kc, rfl⟩ := row_formG HRK.out
  have hlm : l.length ≤ 1000000 := by omega
  have HSA7 := Lib.hid (sr_row (row_ext HRA.out HX7.out) hlm)
  have HSK7 := Lib.hid (sr_row HRK.out hlm)
  obtain ⟨s0, s1, s2, s3, s4, s5⟩ := (HS4.out.ext (HX5.out.trans HX7.out)).c
  have HCK7 := Lib.hid (HCK.out w7 _ (HX5.out.trans HX7.out) HSA7.out)
  have HDU : Hid (∀ wz v u, SR reC 2 wz v l → SR reC 2 wz u l → Calls Try.prog 23 #[v, u] wz fun e w' => e = .returned (.bool true) ∧ Ext wz w') := Lib.hid fun wz v u h1 h2 => by
    have h9 := duties_any v u l l wz h1 h2
    rwa [decide_eq_true rfl] at h9
  go_upto_region 10 with (first
    | (go_at_call 24; (with_reducible refine HCK7.out.mono ?_); rintro e w8 ⟨rfl, hx8⟩)
    | (go_at_call 23; (with_reducible refine (HDU.out w8 _ _ (HSA7.out.ext hx8) (HSK7.out.ext hx8)).mono ?_); rintro e w9 ⟨rfl, hx9⟩))
  have HX9 : Hid (Ext w7 w9) := Lib.hid (hx8.trans hx9)
  clear hx8 hx9 s0 s1 s2 s3 s4 s5 HCK HCK7
  have HX49 : Hid (Ext w4 w9) := Lib.hid (HX5.out.trans (HX7.out.trans HX9.out))
  have HW9 : Hid (Ext W w9) := Lib.hid (HX4.out.trans HX49.out)
  have HK9 := Lib.hid (row_ext HRK.out HX9.out)
  have HS9 := Lib.hid (HS4.out.ext HX49.out)
  have HB9 := Lib.hid (row_ext HRB.out HX49.out)
  have HA9 := Lib.hid (row_ext HRA.out (HX7.out.trans HX9.out))
  have HG5 := Lib.hid HRA.out.lt
  have H45 : Hid (W.heap.size ≤ w4.heap.size) := Lib.hid HX4.out.size
  have HX95 : Hid (Ext w5 w9) := Lib.hid (HX7.out.trans HX9.out)
  clear HSA7 HSK7 HX5 HX7 HX9 HRK HRA HS4 HRB HIB HSU
  by_cases hl0 : l.length = 0
  · have hnl : ¬ (0 : Int) < (l.length : Int) := by omega
    clear hl0
    go_loopw [11] (fun iv wq => iv = .int .i64 0 ∧ wq = w9) (fun iv _ => 0)
    case atStart => exact ⟨rfl, rfl⟩
    case round =>
      obtain ⟨rfl, rfl⟩ := hrel
      have HXW := HW9
      have HDB := Lib.hid HS9.out.at_
      have HSR := Lib.hid HS9.out.os.su
      have HBR := Lib.hid (ird_row HB9.out HBO.out (by omega))
      have HKR := Lib.hid (sr_row HK9.out hlm)
      go_upto_region 13 with (fail)
      have HM2 := Lib.hid (HMA.out wr HXW.out)
      have HSS : Hid (∀ wz, Ext wr wz → wz.cell? ⟨D, 0, none⟩ = some va ∧ wz.cell? ⟨D, 1, none⟩ = some (.int .i64 z1) ∧ wz.cell? ⟨D, 2, none⟩ = some vb ∧ wz.cell? ⟨D, 3, none⟩ = some vc ∧ wz.cell? ⟨D, 4, none⟩ = some (.int .i64 z4) ∧ wz.cell? ⟨D, 5, none⟩ = some (.int .i64 z5)) := Lib.hid fun wz hz => by
        have hb := (hz.block _ (Rg.lt_of_heap HDB.out)).trans HDB.out
        exact ⟨cell_of_row wz D 0 _ _ _ hb, cell_of_row wz D 1 _ _ _ hb, cell_of_row wz D 2 _ _ _ hb, cell_of_row wz D 3 _ _ _ hb, cell_of_row wz D 4 _ _ _ hb, cell_of_row wz D 5 _ _ _ hb⟩
      go_upto_region 14 with (first
        | (go_at_call 12; (with_reducible refine HM2.out.mono ?_); rintro e wa ⟨c0, c1, c2, c3, c4, c5, rfl, hoa, hxa, -⟩; have HSA := Lib.hid hoa.su; have HXA := Lib.hid hxa; have HB2 := Lib.hid (HBD.out wa (HXW.out.trans hxa)); clear hoa hxa)
        | (go_at_call 18; (with_reducible refine HB2.out.mono ?_); rintro e wb ⟨v', rfl, hrb, hxb, hbl⟩; have HIB2 := Lib.hid (ird_row hrb hbl.ok (by omega)); have HXB := Lib.hid (HXA.out.trans hxb); have HSB := Lib.hid (HSA.out.ext hxb); clear hrb hxb hbl)
        | (go_at_call 19; (with_reducible refine (HER.out wb _ _ _ _ _ _ _ (HXW.out.trans HXB.out) HSB.out HIB2.out).mono ?_); rintro e wc ⟨cv, rfl, hxc, hsc⟩; have HSC := Lib.hid hsc; have HXC := Lib.hid (HXB.out.trans hxc); clear hxc hsc))
      obtain ⟨s0, s1, s2, s3, s4, s5⟩ := HSS.out wc HXC.out
      have HA3 := Lib.hid (HER.out wc _ _ _ _ _ _ _ (HXW.out.trans HXC.out) (HSR.out.ext HXC.out) (HBR.out.ext HXC.out))
      go_upto_region 15 with (first
        | (go_at_call 19; (with_reducible refine HA3.out.mono ?_); rintro e wd ⟨dv, rfl, hxd, hsd⟩; have HSD := Lib.hid hsd; have HXD := Lib.hid hxd; clear hxd hsd))
      have HK := Lib.hid (HKR.out.ext (HXC.out.trans HXD.out))
      have HC2 := Lib.hid (HSC.out.ext HXD.out)
      go_wp2_with (first
        | (go_at_call 23; (with_reducible refine (HDU.out wd _ _ HC2.out HK.out).mono ?_); rintro e we ⟨rfl, hxe⟩)
        | (go_at_call 23; (with_reducible refine (HDU.out we _ _ (HSD.out.ext hxe) (HK.out.ext hxe)).mono ?_); rintro e wf ⟨rfl, hxf⟩))
      go_ret
      exact ⟨rfl, HXW.out.trans (HXC.out.trans (HXD.out.trans (hxe.trans hxf)))⟩
  · obtain ⟨g, rfl⟩ : ∃ g, aA = some ⟨g, 0, none⟩ := by
      rcases HA9.out.2 with ⟨-, h1⟩ | ⟨g, cap, cur, hv, -⟩
      · exact absurd h1 hl0
      · injection hv with e1 _ _
        exact ⟨g, e1⟩
    have HZ := Lib.hid (zr_row HA9.out)
    have hgl : g < w5.heap.size ∧ w4.heap.size ≤ g := ⟨(HG5.out g rfl).2, (HG5.out g rfl).1⟩
    have HGL := Lib.hid hgl
    clear hl0 HG5 hgl
    go_loopw [11] (fun iv wq => ∃ i : Nat, iv = .int .i64 i ∧ i ≤ l.length ∧ Hid (ZR g l.length wq) ∧ Hid (KX g w9 wq)) (fun iv _ => l.length - (iof iv).toNat)
    case atStart => exact ⟨0, rfl, by omega, HZ, Lib.hid (KX.of_ext (Ext.refl _))⟩
    case round =>
      obtain ⟨i, rfl, hi, HZR, HKX⟩ := hrel
      by_cases hil : i < l.length
      · obtain ⟨cs, h1, h2⟩ := HZR.out
        obtain ⟨y0, hy0⟩ := h2 (i * 2) (by omega)
        obtain ⟨y1, hy1⟩ := h2 (i * 2 + 1) (by omega)
        have c0 : wr.cell? ⟨g, i * 2, none⟩ = some (.int .i64 y0) := by rw [cell_of_row wr g _ _ _ _ h1, hy0]
        have c1 : wr.cell? ⟨g, i * 2 + 1, none⟩ = some (.int .i64 y1) := by rw [cell_of_row wr g _ _ _ _ h1, hy1]
        have f0 : wr.frozen? ⟨g, i * 2, none⟩ = false := tab_frozen h1
        have f1 : wr.frozen? ⟨g, i * 2 + 1, none⟩ = false := tab_frozen h1
        clear h1 h2 hy0 hy1 cs
        go_wp2_with (fail)
        exact ⟨⟨i + 1, by simp, by omega, Lib.hid HZR.out.set.set, Lib.hid ((HKX.out.set _).set _)⟩, by simp [iof]; omega⟩
      · obtain rfl : i = l.length := by omega
        have HXW : Hid (Ext W wr) := Lib.hid (KX.low HW9.out (by have := HGL.out.2; have := H45.out; omega) HKX.out)
        obtain ⟨zcs, hz1, -⟩ := HZ.out
        have HDB := Lib.hid (HKX.out.cells hz1 HS9.out.at_ (by decide))
        have HSR := Lib.hid (HS9.out.os.kxT hz1 HKX.out (by decide) (by decide) (by decide)).su
        have HBR := Lib.hid (ird_row (HKX.out.row hz1 HB9.out (by decide)) HBO.out (by omega))
        have HKR := Lib.hid (sr_row (row_keepK HK9.out fun q hq => HKX.out.block q (by have := (HK9.out.lt q hq).2; exact this) (by
          have h3 := (HK9.out.lt q hq).1
          have h4 := HGL.out.1
          intro e
          injection e with e
          omega)) hlm)
        clear hz1
        go_upto_region 13 with (fail)
        have HM2 := Lib.hid (HMA.out wr HXW.out)
        have HSS : Hid (∀ wz, Ext wr wz → wz.cell? ⟨D, 0, none⟩ = some va ∧ wz.cell? ⟨D, 1, none⟩ = some (.int .i64 z1) ∧ wz.cell? ⟨D, 2, none⟩ = some vb ∧ wz.cell? ⟨D, 3, none⟩ = some vc ∧ wz.cell? ⟨D, 4, none⟩ = some (.int .i64 z4) ∧ wz.cell? ⟨D, 5, none⟩ = some (.int .i64 z5)) := Lib.hid fun wz hz => by
          have hb := (hz.block _ (Rg.lt_of_heap HDB.out)).trans HDB.out
          exact ⟨cell_of_row wz D 0 _ _ _ hb, cell_of_row wz D 1 _ _ _ hb, cell_of_row wz D 2 _ _ _ hb, cell_of_row wz D 3 _ _ _ hb, cell_of_row wz D 4 _ _ _ hb, cell_of_row wz D 5 _ _ _ hb⟩
        go_upto_region 14 with (first
          | (go_at_call 12; (with_reducible refine HM2.out.mono ?_); rintro e wa ⟨c0, c1, c2, c3, c4, c5, rfl, hoa, hxa, -⟩; have HSA := Lib.hid hoa.su; have HXA := Lib.hid hxa; have HB2 := Lib.hid (HBD.out wa (HXW.out.trans hxa)); clear hoa hxa)
          | (go_at_call 18; (with_reducible refine HB2.out.mono ?_); rintro e wb ⟨v', rfl, hrb, hxb, hbl⟩; have HIB2 := Lib.hid (ird_row hrb hbl.ok (by omega)); have HXB := Lib.hid (HXA.out.trans hxb); have HSB := Lib.hid (HSA.out.ext hxb); clear hrb hxb hbl)
          | (go_at_call 19; (with_reducible refine (HER.out wb _ _ _ _ _ _ _ (HXW.out.trans HXB.out) HSB.out HIB2.out).mono ?_); rintro e wc ⟨cv, rfl, hxc, hsc⟩; have HSC := Lib.hid hsc; have HXC := Lib.hid (HXB.out.trans hxc); clear hxc hsc))
        obtain ⟨s0, s1, s2, s3, s4, s5⟩ := HSS.out wc HXC.out
        have HA3 := Lib.hid (HER.out wc _ _ _ _ _ _ _ (HXW.out.trans HXC.out) (HSR.out.ext HXC.out) (HBR.out.ext HXC.out))
        go_upto_region 15 with (first
          | (go_at_call 19; (with_reducible refine HA3.out.mono ?_); rintro e wd ⟨dv, rfl, hxd, hsd⟩; have HSD := Lib.hid hsd; have HXD := Lib.hid hxd; clear hxd hsd))
        have HK := Lib.hid (HKR.out.ext (HXC.out.trans HXD.out))
        have HC2 := Lib.hid (HSC.out.ext HXD.out)
        go_wp2_with (first
          | (go_at_call 23; (with_reducible refine (HDU.out wd _ _ HC2.out HK.out).mono ?_); rintro e we ⟨rfl, hxe⟩)
          | (go_at_call 23; (with_reducible refine (HDU.out we _ _ (HSD.out.ext hxe) (HK.out.ext hxe)).mono ?_); rintro e wf ⟨rfl, hxf⟩))
        go_ret
        exact ⟨rfl, HXW.out.trans (HXC.out.trans (HXD.out.trans (hxe.trans hxf)))⟩
end Go.Proofs.Ytlekdhhgjhakgaa
