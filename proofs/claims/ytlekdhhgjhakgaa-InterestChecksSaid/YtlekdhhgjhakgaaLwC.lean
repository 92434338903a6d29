/-
  InterestConflicts walked, begun. Conditions: the arguments are opened.
-/
import Derived.Test.YtlekdhhgjhakgaaLcA
import Derived.Test.YtlekdhhgjhakgaaMkB
import Derived.Test.YtlekdhhgjhakgaaRiD
import Derived.Deep.RegionHeld3
namespace Go.Proofs.Ytlekdhhgjhakgaa
set_option linter.unusedVariables false
set_option linter.unusedSimpArgs false
open Go.RowKit
theorem OS.box {w0 w : World} {c0 c1 c2 c3 c4 c5 : Value} {s : Su} (h : OS w0.heap.size w c0 c1 c2 c3 c4 c5 s) (x : Ext w0 w) : BS w0 w.heap.size (w.alloc (.cells #[c0, c1, c2, c3, c4, c5] 28)) c0 c1 c2 c3 c4 c5 s :=
  ⟨Ext.alloc x _, alloc_at w _, h.ext (Ext.alloc (Ext.refl _) _), x.size⟩
/-- The code and the reference agree on a setup. -/
theorem SuV.agree {w : World} {c0 c1 c2 c3 c4 c5 : Value} {s : Su} (h : SuV w c0 c1 c2 c3 c4 c5 s) (p b : Int) (hp : OkI p) (hb : OkI b) : ∃ (x : Int) (c : Bool), ∀ wz, Ext w wz →
    Calls Try.prog 13 #[.agg #[c0, c1, c2, c3, c4, c5], .int .i64 p, .int .i64 b] wz (fun e w' => e = .returned (.int .i64 x) ∧ Ext wz w') ∧
    Calls Try.prog 14 #[.agg #[c0, c1, c2, c3, c4, c5], .int .i64 p, .int .i64 b] wz (fun e w' => e = .returned (.int .i64 x) ∧ Ext wz w') ∧
    Calls Try.prog 15 #[.agg #[c0, c1, c2, c3, c4, c5], .int .i64 p, .int .i64 b] wz (fun e w' => e = .returned (.bool c) ∧ Ext wz w') ∧
    Calls Try.prog 16 #[.agg #[c0, c1, c2, c3, c4, c5], .int .i64 p, .int .i64 b] wz (fun e w' => e = .returned (.bool c) ∧ Ext wz w') :=
  ⟨_, _, fun wz hz => ⟨Parts_any _ _ _ _ _ _ s p b wz (h.ext hz) hp, refParts_any _ _ _ _ _ _ s p b wz (h.ext hz) hp, Conflict_any _ _ _ _ _ _ s p b wz (h.ext hz) hp hb, refConflict_any _ _ _ _ _ _ s p b wz (h.ext hz) hp⟩⟩
set_option maxRecDepth 100000 in
set_option maxHeartbeats 8000000 in
theorem conflicts_walk (A0 A1 A2 : Option Addr) (n0 n1 n2 : Nat) (xs : List Int) (hs rs : List (List Int)) (W : World) (h0 : IRd W (.slice A0 xs.length n0) xs) (h1 : RN 3 W (.slice A1 hs.length n1) hs) (h2 : RN 2 W (.slice A2 rs.length n2) rs) (k1 : hs.length ≤ n1) (k2 : rs.length ≤ n2) :
    Calls Try.prog 3 #[.slice A0 xs.length n0, .slice A1 hs.length n1, .slice A2 rs.length n2] W fun e W' => e = .returned (.bool true) ∧ Ext W W' := by
  have hl1 : hs.length ≤ 9223372036854775807 := by obtain ⟨_, _, e, h, -⟩ := id h1; exact h
  have hl2 : rs.length ≤ 9223372036854775807 := by obtain ⟨_, _, e, h, -⟩ := id h2; exact h
  have H0 := Lib.hid h0; have H1 := Lib.hid h1; have H2 := Lib.hid h2
  clear h0 h1 h2
  go_enter Try.func3, Try.ntmps3
  go_upto_region 2 with (go_at_call 11; (with_reducible refine (sanity_any _).mono ?_); rintro e w1 ⟨rfl, hx1⟩)
  have HX1 := Lib.hid hx1
  have HM1 := Lib.hid (Made_any _ xs w1 (H0.out.ext hx1))
  clear hx1
  go_upto_region 3 with (go_at_call 12; (with_reducible refine HM1.out.mono ?_); rintro e w2 ⟨c0, c1, c2, c3, c4, c5, s, rfl, hos, hx2, hms⟩; obtain ⟨a0, p0, z1, a2, p2, a3, p3, z4, z5, rfl, rfl, rfl, rfl, rfl, rfl⟩ := hos.form)
  have HX2 : Hid (Ext W w2) := Lib.hid (HX1.out.trans hx2)
  have HS := Lib.hid (hos.box hx2)
  have HMS := Lib.hid hms
  clear hos hms hx2 HM1
  obtain ⟨D, hD⟩ : ∃ D, D = w2.heap.size := ⟨_, rfl⟩
  obtain ⟨va, hva⟩ : ∃ va, va = Value.slice a0 s.ps.length p0 := ⟨_, rfl⟩
  obtain ⟨vb, hvb⟩ : ∃ vb, vb = Value.slice a2 s.hs.length p2 := ⟨_, rfl⟩
  obtain ⟨vc, hvc⟩ : ∃ vc, vc = Value.slice a3 s.rs.length p3 := ⟨_, rfl⟩
  rw [← hD, ← hva, ← hvb, ← hvc] at HS ⊢
  clear hD hva hvb hvc
  generalize w2.alloc (.cells #[va, .int .i64 z1, vb, vc, .int .i64 z4, .int .i64 z5] 28) = w3 at *
  have HX3 : Hid (Ext W w3) := Lib.hid (HX1.out.trans HS.out.low)
  have HM2 := Lib.hid (Made_any _ xs w3 (H0.out.ext HX3.out))
  go_upto_region 4 with (go_at_call 12; (with_reducible refine HM2.out.mono ?_); rintro e w4 ⟨d0, d1, d2, d3, d4, d5, t, rfl, hot, hx4, hmt⟩; obtain ⟨t0, o0, y1, t2, o2, t3, o3, y4, y5, rfl, rfl, rfl, rfl, rfl, rfl⟩ := hot.form)
  have HT := Lib.hid (hot.box hx4)
  have HMT := Lib.hid hmt
  have HS4 := Lib.hid (HS.out.ext (hx4.trans (Ext.alloc (Ext.refl _) (.cells #[.slice t0 t.ps.length o0, .int .i64 y1, .slice t2 t.hs.length o2, .slice t3 t.rs.length o3, .int .i64 y4, .int .i64 y5] 28))))
  clear hot hmt hx4 HM2 HX2
  obtain ⟨E, hE⟩ : ∃ E, E = w4.heap.size := ⟨_, rfl⟩
  rw [← hE] at HT ⊢
  clear hE
  generalize w4.alloc (.cells #[.slice t0 t.ps.length o0, .int .i64 y1, .slice t2 t.hs.length o2, .slice t3 t.rs.length o3, .int .i64 y4, .int .i64 y5] 28) = w5 at *
  obtain ⟨m, hm⟩ : ∃ m : Nat, m = min hs.length 6 := ⟨_, rfl⟩
  have hmi : min (hs.length : Int) 6 = (m : Int) := by omega
  have hmi2 : min (6 : Int) (hs.length : Int) = (m : Int) := by omega
  have hm6 : m ≤ 6 := by omega
  have hml : m ≤ hs.length := by omega
  have hmn : m ≤ n1 := by omega
  have hmn2 : (m : Int) ≤ (n1 : Int) := by omega
  have HCT : Hid (∀ wz, Ext w5 wz → wz.cell? ⟨E, 2, none⟩ = some (.slice t2 t.hs.length o2) ∧ wz.cell? ⟨E, 3, none⟩ = some (.slice t3 t.rs.length o3)) := Lib.hid fun wz hz => ⟨(HT.out.ext hz).c.2.2.1, (HT.out.ext hz).c.2.2.2.1⟩
  refine Rp.wp_regionTE [] [(0, .y), (1, .y), (2, .y), (3, .y), (4, .y), (5, .y), (6, .y)] [7, 8, 9] (fun _ => (.cells #[] 3, fun p => .slice (some ⟨p, 0, none⟩) 1 1)) (fun c a d v w h => by have h' : _ ∧ _ := h; exact ⟨(Rr.put_defers a d v).symm.trans h'.1, h'.2⟩) (by kernel_rfl) (by kernel_rfl) ?_
  (refine Rr.wr_y (by simp only [List.getElem?_toArray, List.getElem?_cons_succ, List.getElem?_cons_zero]; rfl) (by rfl) ?_
   apply Exists.intro
   refine ⟨fun wz hw hh => ?_, ?_⟩
   · obtain ⟨hc2, hc3⟩ := HCT.out wz hw
     go_simp
     (with_reducible exact Rg.up_value)
   simp only [Act.put, List.setIfInBounds_toArray, List.set_cons_zero, List.set_cons_succ])
  (refine Rr.wr_y (by simp only [List.getElem?_toArray, List.getElem?_cons_succ, List.getElem?_cons_zero]; rfl) (by rfl) ?_
   apply Exists.intro
   refine ⟨fun wz hw hh => ?_, ?_⟩
   · obtain ⟨hc2, hc3⟩ := HCT.out wz hw
     go_simp
     (with_reducible exact Rg.up_value)
   simp only [Act.put, List.setIfInBounds_toArray, List.set_cons_zero, List.set_cons_succ])
  (refine Rr.wr_y (by simp only [List.getElem?_toArray, List.getElem?_cons_succ, List.getElem?_cons_zero]; rfl) (by rfl) ?_
   apply Exists.intro
   refine ⟨fun wz hw hh => ?_, ?_⟩
   · obtain ⟨hc2, hc3⟩ := HCT.out wz hw
     go_simp
     (with_reducible exact Rg.up_value)
   simp only [Act.put, List.setIfInBounds_toArray, List.set_cons_zero, List.set_cons_succ])
  (refine Rr.wr_y (by simp only [List.getElem?_toArray, List.getElem?_cons_succ, List.getElem?_cons_zero]; rfl) (by rfl) ?_
   apply Exists.intro
   refine ⟨fun wz hw hh => ?_, ?_⟩
   · obtain ⟨hc2, hc3⟩ := HCT.out wz hw
     go_simp
     (with_reducible exact Rg.up_value)
   simp only [Act.put, List.setIfInBounds_toArray, List.set_cons_zero, List.set_cons_succ])
  (refine Rr.wr_y (by simp only [List.getElem?_toArray, List.getElem?_cons_succ, List.getElem?_cons_zero]; rfl) (by rfl) ?_
   apply Exists.intro
   refine ⟨fun wz hw hh => ?_, ?_⟩
   · obtain ⟨hc2, hc3⟩ := HCT.out wz hw
     go_simp
     (with_reducible exact Rg.up_value)
   simp only [Act.put, List.setIfInBounds_toArray, List.set_cons_zero, List.set_cons_succ])
  (refine Rr.wr_y (by simp only [List.getElem?_toArray, List.getElem?_cons_succ, List.getElem?_cons_zero]; rfl) (by rfl) ?_
   apply Exists.intro
   refine ⟨fun wz hw hh => ?_, ?_⟩
   · obtain ⟨hc2, hc3⟩ := HCT.out wz hw
     go_simp
     (with_reducible exact Rg.up_value)
   simp only [Act.put, List.setIfInBounds_toArray, List.set_cons_zero, List.set_cons_succ])
  rw [← hm]
  clear hm
  (refine Rr.wr_y (by simp only [List.getElem?_toArray, List.getElem?_cons_succ, List.getElem?_cons_zero]; rfl) (by rfl) ?_
   apply Exists.intro
   refine ⟨fun wz hw hh => ?_, ?_⟩
   · obtain ⟨hc2, hc3⟩ := HCT.out wz hw
     go_simp
     (with_reducible exact Rg.up_value)
   simp only [Act.put, List.setIfInBounds_toArray, List.set_cons_zero, List.set_cons_succ])
  refine Rr.wr_nil ?_
  intro wy hy hh
  clear hh
  simp only [List.filterMap_cons, List.filterMap_nil, List.getElem?_cons_succ, List.getElem?_cons_zero]
  have HTY := Lib.hid (HT.out.ext hy); have HSY := Lib.hid (HS4.out.ext hy); have HXY := Lib.hid hy
  have hlen := (rn_src (cs := Ho.cs) hoOf (fun z => rfl) (fun _ => rfl) (H1.out.ext (HX3.out.trans (show Ext w3 wy from HT.out.low.trans hy))) m hml)
  obtain ⟨hlen, hsrc⟩ := hlen
  obtain ⟨us, hus⟩ : ∃ us, us = (hs.take m).map hoOf := ⟨_, rfl⟩
  rw [← hus] at hlen hsrc
  have HUO : Hid (∀ h ∈ us, OkI h.per ∧ OkI h.bid ∧ OkI h.pct) := Lib.hid fun h hh => by
    rw [hus] at hh
    obtain ⟨z, hz, rfl⟩ := List.mem_map.1 hh
    exact ⟨rn_ok H1.out (List.mem_of_mem_take hz) 0, rn_ok H1.out (List.mem_of_mem_take hz) 1, rn_ok H1.out (List.mem_of_mem_take hz) 2⟩
  clear hus
  have hnh := HMT.out.nh
  have hll : t.hs.length + us.length ≤ 1000000 := by omega
  have hsz : w3.heap.size ≤ wy.heap.size := HTY.out.low.size
  have HLU := Lib.hid hlen
  clear hy
  refine append_rows (cs := Ho.cs) (z := .agg #[.int .i64 0, .int .i64 0, .int .i64 0]) 23 33 24 Try.underlying23 (by kernel_rfl) (by rfl) (by decide) (by decide) rfl (.tmp 19) (.tmp 24) rfl w3.heap.size (.slice t2 t.hs.length o2) t.hs (by rfl) HTY.out.os.hs (fun _ => ⟨rfl, by simp [Ho.cs, Value.oneCell']⟩) A1 n1 us (by rw [HLU.out]; rfl) hsrc hll hsz ?_
  intro v7 w7 hr7 hg7
  obtain ⟨A7, n7, rfl⟩ := row_formG hr7
  have hp7 := row_other HTY.out.os.hs (by decide) hg7 HTY.out.at_
  have f7 : w7.frozen? ⟨E, 2, none⟩ = false := tab_frozen hp7
  have c7 := cell_of_row w7 E 2 _ _ _ hp7
  change w7.cell? _ = some (.slice t2 t.hs.length o2) at c7
  have HT7 := Lib.hid (HTY.out.pushH (p := us) hg7 hr7 ⟨HTY.out.os.ok.ps, fun h hh => (List.mem_append.1 hh).elim (HTY.out.os.ok.hs h) (HUO.out h), HTY.out.os.ok.rs, HTY.out.os.ok.np, by simp; omega, HTY.out.os.ok.nr⟩)
  clear hr7 hg7 hp7 hsrc hll hsz HTY HSY HXY HT HS4 HCT
  simp only [Act.put, List.setIfInBounds_toArray, List.set_cons_zero, List.set_cons_succ]
  go_upto_region 5 with (fail)
  clear f7 c7
  rw [List.length_append, HLU.out] at HT7
  obtain ⟨u2, hu2⟩ : ∃ u2, u2 = Value.slice A7 (t.hs.length + m) n7 := ⟨_, rfl⟩
  rw [← hu2] at HT7 ⊢
  clear hu2
  generalize w7.setCell ⟨E, 2, none⟩ u2 = w8 at *
  obtain ⟨q, hq⟩ : ∃ q : Nat, q = min rs.length 6 := ⟨_, rfl⟩
  have hqi : min (rs.length : Int) 6 = (q : Int) := by omega
  have hq6 : q ≤ 6 := by omega
  have hql : q ≤ rs.length := by omega
  have hqn : q ≤ n2 := by omega
  have hqn2 : (q : Int) ≤ (n2 : Int) := by omega
  have HCT : Hid (∀ wz, Ext w8 wz → wz.cell? ⟨E, 2, none⟩ = some u2 ∧ wz.cell? ⟨E, 3, none⟩ = some (.slice t3 t.rs.length o3)) := Lib.hid fun wz hz => ⟨(HT7.out.ext hz).c.2.2.1, (HT7.out.ext hz).c.2.2.2.1⟩
  refine Rp.wp_regionTE [] [(0, .y), (1, .y), (2, .y), (3, .y), (4, .y), (5, .y), (6, .y)] [7, 8, 9] (fun _ => (.cells #[] 3, fun p => .slice (some ⟨p, 0, none⟩) 1 1)) (fun c a d v w h => by have h' : _ ∧ _ := h; exact ⟨(Rr.put_defers a d v).symm.trans h'.1, h'.2⟩) (by kernel_rfl) (by kernel_rfl) ?_
  (refine Rr.wr_y (by simp only [List.getElem?_toArray, List.getElem?_cons_succ, List.getElem?_cons_zero]; rfl) (by rfl) ?_
   apply Exists.intro
   refine ⟨fun wz hw hh => ?_, ?_⟩
   · obtain ⟨hc2, hc3⟩ := HCT.out wz hw
     go_simp
     (with_reducible exact Rg.up_value)
   simp only [Act.put, List.setIfInBounds_toArray, List.set_cons_zero, List.set_cons_succ])
  (refine Rr.wr_y (by simp only [List.getElem?_toArray, List.getElem?_cons_succ, List.getElem?_cons_zero]; rfl) (by rfl) ?_
   apply Exists.intro
   refine ⟨fun wz hw hh => ?_, ?_⟩
   · obtain ⟨hc2, hc3⟩ := HCT.out wz hw
     go_simp
     (with_reducible exact Rg.up_value)
   simp only [Act.put, List.setIfInBounds_toArray, List.set_cons_zero, List.set_cons_succ])
  (refine Rr.wr_y (by simp only [List.getElem?_toArray, List.getElem?_cons_succ, List.getElem?_cons_zero]; rfl) (by rfl) ?_
   apply Exists.intro
   refine ⟨fun wz hw hh => ?_, ?_⟩
   · obtain ⟨hc2, hc3⟩ := HCT.out wz hw
     go_simp
     (with_reducible exact Rg.up_value)
   simp only [Act.put, List.setIfInBounds_toArray, List.set_cons_zero, List.set_cons_succ])
  (refine Rr.wr_y (by simp only [List.getElem?_toArray, List.getElem?_cons_succ, List.getElem?_cons_zero]; rfl) (by rfl) ?_
   apply Exists.intro
   refine ⟨fun wz hw hh => ?_, ?_⟩
   · obtain ⟨hc2, hc3⟩ := HCT.out wz hw
     go_simp
     (with_reducible exact Rg.up_value)
   simp only [Act.put, List.setIfInBounds_toArray, List.set_cons_zero, List.set_cons_succ])
  (refine Rr.wr_y (by simp only [List.getElem?_toArray, List.getElem?_cons_succ, List.getElem?_cons_zero]; rfl) (by rfl) ?_
   apply Exists.intro
   refine ⟨fun wz hw hh => ?_, ?_⟩
   · obtain ⟨hc2, hc3⟩ := HCT.out wz hw
     go_simp
     (with_reducible exact Rg.up_value)
   simp only [Act.put, List.setIfInBounds_toArray, List.set_cons_zero, List.set_cons_succ])
  (refine Rr.wr_y (by simp only [List.getElem?_toArray, List.getElem?_cons_succ, List.getElem?_cons_zero]; rfl) (by rfl) ?_
   apply Exists.intro
   refine ⟨fun wz hw hh => ?_, ?_⟩
   · obtain ⟨hc2, hc3⟩ := HCT.out wz hw
     go_simp
     (with_reducible exact Rg.up_value)
   simp only [Act.put, List.setIfInBounds_toArray, List.set_cons_zero, List.set_cons_succ])
  try rw [← hq]
  clear hq
  (refine Rr.wr_y (by simp only [List.getElem?_toArray, List.getElem?_cons_succ, List.getElem?_cons_zero]; rfl) (by rfl) ?_
   apply Exists.intro
   refine ⟨fun wz hw hh => ?_, ?_⟩
   · obtain ⟨hc2, hc3⟩ := HCT.out wz hw
     go_simp
     (with_reducible exact Rg.up_value)
   simp only [Act.put, List.setIfInBounds_toArray, List.set_cons_zero, List.set_cons_succ])
  refine Rr.wr_nil ?_
  intro wy2 hy hh
  clear hh
  simp only [List.filterMap_cons, List.filterMap_nil, List.getElem?_cons_succ, List.getElem?_cons_zero]
  have HTZ := Lib.hid (HT7.out.ext hy)
  have hlen := (rn_src (cs := reC) reOf (fun z => rfl) (fun _ => rfl) (H2.out.ext (HX3.out.trans (show Ext w3 wy2 from HTZ.out.low))) q hql)
  obtain ⟨hlen, hsrc⟩ := hlen
  obtain ⟨vs, hvs⟩ : ∃ vs, vs = (rs.take q).map reOf := ⟨_, rfl⟩
  rw [← hvs] at hlen hsrc
  have HVO : Hid (∀ r ∈ vs, OkI r.1 ∧ OkI r.2) := Lib.hid fun h hh => by
    rw [hvs] at hh
    obtain ⟨z, hz, rfl⟩ := List.mem_map.1 hh
    exact ⟨rn_ok H2.out (List.mem_of_mem_take hz) 0, rn_ok H2.out (List.mem_of_mem_take hz) 1⟩
  clear hvs
  have hnr := HMT.out.nr
  have hll : t.rs.length + vs.length ≤ 1000000 := by omega
  have hsz : w3.heap.size ≤ wy2.heap.size := HTZ.out.low.size
  have HLV := Lib.hid hlen
  clear hy
  refine append_rows (cs := reC) (z := .agg #[.int .i64 0, .int .i64 0]) 24 36 16 Try.underlying24 (by kernel_rfl) (by rfl) (by decide) (by decide) rfl (.tmp 28) (.tmp 33) rfl w3.heap.size (.slice t3 t.rs.length o3) t.rs (by rfl) HTZ.out.os.rs (fun _ => ⟨rfl, by simp [reC, Value.oneCell']⟩) A2 n2 vs (by rw [HLV.out]; rfl) hsrc hll hsz ?_
  intro v9 w9 hr9 hg9
  obtain ⟨A9, n9, rfl⟩ := row_formG hr9
  have hp9 := row_other HTZ.out.os.rs (by decide) hg9 HTZ.out.at_
  have f9 : w9.frozen? ⟨E, 3, none⟩ = false := tab_frozen hp9
  have c9 := cell_of_row w9 E 3 _ _ _ hp9
  change w9.cell? _ = some (.slice t3 t.rs.length o3) at c9
  have HT9 := Lib.hid (HTZ.out.pushR (p := vs) hg9 hr9 ⟨HTZ.out.os.ok.ps, HTZ.out.os.ok.hs, fun h hh => (List.mem_append.1 hh).elim (HTZ.out.os.ok.rs h) (HVO.out h), HTZ.out.os.ok.np, HTZ.out.os.ok.nh, by simp; omega⟩)
  clear hr9 hg9 hp9 hsrc hll hsz HTZ HT7 HCT
  simp only [Act.put, List.setIfInBounds_toArray, List.set_cons_zero, List.set_cons_succ]
  go_upto_region 6 with (fail)
  clear f9 c9
  rw [List.length_append, HLV.out] at HT9
  obtain ⟨u3, hu3⟩ : ∃ u3, u3 = Value.slice A9 (t.rs.length + q) n9 := ⟨_, rfl⟩
  rw [← hu3] at HT9 ⊢
  clear hu3
  obtain ⟨u0, hu0⟩ : ∃ u0, u0 = Value.slice t0 t.ps.length o0 := ⟨_, rfl⟩
  rw [← hu0] at HT9
  clear hu0
  generalize w9.setCell ⟨E, 3, none⟩ u3 = w10 at *
  obtain ⟨T, hT⟩ : ∃ T, T = (⟨t.ps, t.hs ++ us, t.rs ++ vs⟩ : Su) := ⟨_, rfl⟩
  rw [← hT] at HT9
  clear hT
  have HS10 := Lib.hid (HS.out.ext HT9.out.low)
  have HXT : Hid (Ext W w10) := Lib.hid (HX3.out.trans HT9.out.low)
  have HSS : Hid (∀ wz, Ext w10 wz → wz.cell? ⟨D, 0, none⟩ = some va ∧ wz.cell? ⟨D, 1, none⟩ = some (.int .i64 z1) ∧ wz.cell? ⟨D, 2, none⟩ = some vb ∧ wz.cell? ⟨D, 3, none⟩ = some vc ∧ wz.cell? ⟨D, 4, none⟩ = some (.int .i64 z4) ∧ wz.cell? ⟨D, 5, none⟩ = some (.int .i64 z5) ∧ wz.cell? ⟨E, 0, none⟩ = some u0 ∧ wz.cell? ⟨E, 1, none⟩ = some (.int .i64 y1) ∧ wz.cell? ⟨E, 2, none⟩ = some u2 ∧ wz.cell? ⟨E, 3, none⟩ = some u3 ∧ wz.cell? ⟨E, 4, none⟩ = some (.int .i64 y4) ∧ wz.cell? ⟨E, 5, none⟩ = some (.int .i64 y5)) := Lib.hid fun wz hz => by
    obtain ⟨a0, a1, a2, a3, a4, a5⟩ := (HS10.out.ext hz).c
    obtain ⟨b0, b1, b2, b3, b4, b5⟩ := (HT9.out.ext hz).c
    exact ⟨a0, a1, a2, a3, a4, a5, b0, b1, b2, b3, b4, b5⟩
  have HA := Lib.hid HS10.out.os.su.agree
  have HB := Lib.hid HT9.out.os.su.agree
  clear HS HS10 HT9 HMS HMT HUO HVO HLU HLV H0
  go_upto_region 7 with (fail)
  try clear HMS
  try clear HMT
  go_loopw [10] (fun iv wr => ∃ i : Nat, iv = .int .i64 i ∧ i ≤ 10 ∧ Hid (Ext w10 wr)) (fun iv _ => 10 - (iof iv).toNat)
  case atStart => exact ⟨0, rfl, by omega, Lib.hid (Ext.refl _)⟩
  case round =>
    rename World => wo
    obtain ⟨i, rfl, hi, HX⟩ := hrel
    by_cases hil : (i : Int) < 10
    · go_upto_region 10 with (fail)
      try rw [show decide ((i : Int) < 10) = true from decide_eq_true hil]
      go_loopw [11] (fun jv wq => ∃ j : Nat, jv = .int .i64 j ∧ 9 ≤ j ∧ j ≤ 17 ∧ Hid (Ext w10 wq)) (fun jv _ => 17 - (iof jv).toNat)
      case atStart => exact ⟨9, rfl, by omega, by omega, HX⟩
      case round =>
        obtain ⟨j, rfl, h9, hj, HXQ⟩ := hrel
        clear HX
        by_cases hjl : (j : Int) < 17
        · obtain ⟨x, c, hxc⟩ := HA.out i j (okI_small (by omega)) (okI_small (by omega))
          obtain ⟨y, d, hyd⟩ := HB.out i j (okI_small (by omega)) (okI_small (by omega))
          have HC1 := Lib.hid fun wz hz => (hxc wz hz).1
          have HC2 := Lib.hid fun wz hz => (hxc wz hz).2.1
          have HC3 := Lib.hid fun wz hz => (hxc wz hz).2.2.1
          have HC4 := Lib.hid fun wz hz => (hxc wz hz).2.2.2
          have HC5 := Lib.hid fun wz hz => (hyd wz hz).2.2.1
          have HC6 := Lib.hid fun wz hz => (hyd wz hz).2.2.2
          have HEX : Hid (∀ wz, Ext wr wz → Ext w10 wz) := Lib.hid fun wz hz => HXQ.out.trans hz
          obtain ⟨s0, s1, s2, s3, s4, s5, s6, s7, s8, s9, s10, s11⟩ := HSS.out wr HXQ.out
          clear hxc hyd
          go_upto_region 12 with (fail)
          go_region_held3 (fun w' => w'.cell? ⟨D, 0, none⟩ = some va ∧ w'.cell? ⟨D, 1, none⟩ = some (.int .i64 z1) ∧ w'.cell? ⟨D, 2, none⟩ = some vb ∧ w'.cell? ⟨D, 3, none⟩ = some vc ∧ w'.cell? ⟨D, 4, none⟩ = some (.int .i64 z4) ∧ w'.cell? ⟨D, 5, none⟩ = some (.int .i64 z5) ∧ w'.cell? ⟨E, 0, none⟩ = some u0 ∧ w'.cell? ⟨E, 1, none⟩ = some (.int .i64 y1) ∧ w'.cell? ⟨E, 2, none⟩ = some u2 ∧ w'.cell? ⟨E, 3, none⟩ = some u3 ∧ w'.cell? ⟨E, 4, none⟩ = some (.int .i64 y4) ∧ w'.cell? ⟨E, 5, none⟩ = some (.int .i64 y5))
            (first | exact HSS.out _ (HEX.out _ (by with_reducible repeat (first | exact Ext.refl _ | assumption | apply Ext.drewN | apply Ext.drew | apply Ext.alloc | (refine Ext.setCell ?_ (by simp <;> omega) _) | (refine Ext.trans ?_ (by assumption))))) | go_keep)
            (first
              | (go_at_call 13; (with_reducible refine (HC1.out _ (HEX.out _ (by with_reducible repeat (first | exact Ext.refl _ | assumption | apply Ext.drewN | apply Ext.drew | apply Ext.alloc | (refine Ext.setCell ?_ (by simp <;> omega) _) | (refine Ext.trans ?_ (by assumption)))))).mono ?_); rintro e wa ⟨rfl, hxa⟩)
              | (go_at_call 14; (with_reducible refine (HC2.out _ (HEX.out _ (by with_reducible repeat (first | exact Ext.refl _ | assumption | apply Ext.drewN | apply Ext.drew | apply Ext.alloc | (refine Ext.setCell ?_ (by simp <;> omega) _) | (refine Ext.trans ?_ (by assumption)))))).mono ?_); rintro e wb ⟨rfl, hxb⟩)
              | (go_at_call 15; (with_reducible refine (HC3.out _ (HEX.out _ (by with_reducible repeat (first | exact Ext.refl _ | assumption | apply Ext.drewN | apply Ext.drew | apply Ext.alloc | (refine Ext.setCell ?_ (by simp <;> omega) _) | (refine Ext.trans ?_ (by assumption)))))).mono ?_); rintro e wc ⟨rfl, hxc⟩)
              | (go_at_call 16; (with_reducible refine (HC4.out _ (HEX.out _ (by with_reducible repeat (first | exact Ext.refl _ | assumption | apply Ext.drewN | apply Ext.drew | apply Ext.alloc | (refine Ext.setCell ?_ (by simp <;> omega) _) | (refine Ext.trans ?_ (by assumption)))))).mono ?_); rintro e wd ⟨rfl, hxd⟩)
              | (go_at_call 15; (with_reducible refine (HC5.out _ (HEX.out _ (by with_reducible repeat (first | exact Ext.refl _ | assumption | apply Ext.drewN | apply Ext.drew | apply Ext.alloc | (refine Ext.setCell ?_ (by simp <;> omega) _) | (refine Ext.trans ?_ (by assumption)))))).mono ?_); rintro e we ⟨rfl, hxe⟩)
              | (go_at_call 16; (with_reducible refine (HC6.out _ (HEX.out _ (by with_reducible repeat (first | exact Ext.refl _ | assumption | apply Ext.drewN | apply Ext.drew | apply Ext.alloc | (refine Ext.setCell ?_ (by simp <;> omega) _) | (refine Ext.trans ?_ (by assumption)))))).mono ?_); rintro e wf ⟨rfl, hxf⟩))
          have HXF : Hid (Ext w10 wf) := Lib.hid (HEX.out _ (by with_reducible repeat (first | exact Ext.refl _ | assumption | apply Ext.drewN | apply Ext.drew | apply Ext.alloc | (refine Ext.setCell ?_ (by simp <;> omega) _) | (refine Ext.trans ?_ (by assumption)))))
          clear hxa hxb hxc hxd hxe hxf s0 s1 s2 s3 s4 s5 s6 s7 s8 s9 s10 s11 HC1 HC2 HC3 HC4 HC5 HC6 HEX
          go_wp2_with (fail)
          exact ⟨⟨j + 1, by simp, by omega, by omega, HXF⟩, by simp [iof]; omega⟩
        · obtain rfl : j = 17 := by omega
          go_wp2_with (fail)
          exact ⟨⟨i + 1, by simp, by omega, HXQ⟩, by simp [iof]; omega⟩
    · obtain rfl : i = 10 := by omega
      go_upto_region 15 with (fail)
      try rw [show decide (((10 : Nat) : Int) < 10) = false from rfl]
      go_loopw [12] (fun av wq => ∃ a : Nat, av = .int .i64 a ∧ a ≤ hs.length ∧ a ≤ 6 ∧ Hid (Ext w10 wq)) (fun av _ => 6 - (iof av).toNat)
      case atStart => exact ⟨0, rfl, by omega, by omega, HX⟩
      case round =>
        obtain ⟨a, rfl, hal, ha6, HXQ⟩ := hrel
        clear HX
        by_cases hah : a < hs.length
        · by_cases hal6 : a < 6
          · obtain ⟨bq, off, rfl, hcell, -⟩ := (H1.out.ext (HXT.out.trans HXQ.out)).at a hah
            have OK0 := rn_ok H1.out (List.getElem_mem hah) 0
            have OK1 := rn_ok H1.out (List.getElem_mem hah) 1
            have HCQ : Hid (∀ wz, Ext wr wz → wz.cell? ⟨E, 0, none⟩ = some u0 ∧ wz.cell? ⟨E, 1, none⟩ = some (.int .i64 y1) ∧ wz.cell? ⟨E, 2, none⟩ = some u2 ∧ wz.cell? ⟨E, 3, none⟩ = some u3 ∧ wz.cell? ⟨E, 4, none⟩ = some (.int .i64 y4) ∧ wz.cell? ⟨E, 5, none⟩ = some (.int .i64 y5) ∧ wz.cell? ⟨bq, off + a * 3, none⟩ = some (.int .i64 (hs[a].getD 0 0)) ∧ wz.cell? ⟨bq, off + a * 3 + 1, none⟩ = some (.int .i64 (hs[a].getD 1 0))) := Lib.hid fun wz hz => by
              obtain ⟨s0, s1, s2, s3, s4, s5, s6, s7, s8, s9, s10, s11⟩ := HSS.out wz (HXQ.out.trans hz)
              have hb := World.block_lt_of_cell? wr _ (hcell 0 (by decide))
              exact ⟨s6, s7, s8, s9, s10, s11, (hz.cells.1 _ _ hb).trans (hcell 0 (by decide)), (hz.cells.1 _ _ hb).trans (hcell 1 (by decide))⟩
            obtain ⟨x, c, hxc⟩ := HB.out _ _ OK0 OK1
            have HC1 := Lib.hid fun wz hz => (hxc wz hz).1
            have HC2 := Lib.hid fun wz hz => (hxc wz hz).2.1
            have HEX : Hid (∀ wz, Ext wr wz → Ext w10 wz) := Lib.hid fun wz hz => HXQ.out.trans hz
            generalize hs[a].getD 0 0 = h0 at *
            generalize hs[a].getD 1 0 = h1 at *
            obtain ⟨s0, s1, s2, s3, s4, s5, s6, s7⟩ := HCQ.out wr (Ext.refl _)
            clear hxc hcell
            go_upto_region 17 with (fail)
            go_region_held3 (fun w' => w'.cell? ⟨E, 0, none⟩ = some u0 ∧ w'.cell? ⟨E, 1, none⟩ = some (.int .i64 y1) ∧ w'.cell? ⟨E, 2, none⟩ = some u2 ∧ w'.cell? ⟨E, 3, none⟩ = some u3 ∧ w'.cell? ⟨E, 4, none⟩ = some (.int .i64 y4) ∧ w'.cell? ⟨E, 5, none⟩ = some (.int .i64 y5) ∧ w'.cell? ⟨bq, off + a * 3, none⟩ = some (.int .i64 h0) ∧ w'.cell? ⟨bq, off + a * 3 + 1, none⟩ = some (.int .i64 h1))
              (first | exact HCQ.out _ (by with_reducible repeat (first | exact Ext.refl _ | assumption | apply Ext.drewN | apply Ext.drew | apply Ext.alloc | (refine Ext.setCell ?_ (by simp <;> omega) _) | (refine Ext.trans ?_ (by assumption)))) | go_keep)
              (first
                | (go_at_call 13; (with_reducible refine (HC1.out _ (HEX.out _ (by with_reducible repeat (first | exact Ext.refl _ | assumption | apply Ext.drewN | apply Ext.drew | apply Ext.alloc | (refine Ext.setCell ?_ (by simp <;> omega) _) | (refine Ext.trans ?_ (by assumption)))))).mono ?_); rintro e wa ⟨rfl, hxa⟩)
                | (go_at_call 14; (with_reducible refine (HC2.out _ (HEX.out _ (by with_reducible repeat (first | exact Ext.refl _ | assumption | apply Ext.drewN | apply Ext.drew | apply Ext.alloc | (refine Ext.setCell ?_ (by simp <;> omega) _) | (refine Ext.trans ?_ (by assumption)))))).mono ?_); rintro e wb ⟨rfl, hxb⟩))
            have HXF : Hid (Ext w10 wb) := Lib.hid (HEX.out _ (by with_reducible repeat (first | exact Ext.refl _ | assumption | apply Ext.drewN | apply Ext.drew | apply Ext.alloc | (refine Ext.setCell ?_ (by simp <;> omega) _) | (refine Ext.trans ?_ (by assumption)))))
            clear hxa hxb s0 s1 s2 s3 s4 s5 s6 s7 HC1 HC2 HEX HCQ
            go_wp2_with (fail)
            exact ⟨⟨a + 1, by simp, by omega, by omega, HXF⟩, by simp [iof]; omega⟩
          · obtain rfl : a = 6 := by omega
            have hq6 : ¬ ((6 : Nat) : Int) < 6 := by decide
            go_wp2_with (fail)
            go_ret
            exact ⟨rfl, HXT.out.trans HXQ.out⟩
        · skip
          go_wp2_with (fail)
          go_ret
          exact ⟨rfl, HXT.out.trans HXQ.out⟩
end Go.Proofs.Ytlekdhhgjhakgaa
