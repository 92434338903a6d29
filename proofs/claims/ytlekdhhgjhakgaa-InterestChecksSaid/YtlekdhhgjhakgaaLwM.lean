/-
  InterestMore walked. Conditions: the arguments are opened.
-/
import Derived.Test.YtlekdhhgjhakgaaLwC
import Derived.Test.YtlekdhhgjhakgaaJnE
import Derived.Test.YtlekdhhgjhakgaaMkF
namespace Go.Proofs.Ytlekdhhgjhakgaa
set_option linter.unusedVariables false
set_option linter.unusedSimpArgs false
open Go.RowKit
/-- A setup that is being made, its persons another's. -/
structure TS (w0 : World) (G : Nat) (W : World) (va c2 c3 : Value) (hs : List Ho) (rs : List (Int × Int)) : Prop where
  low : Ext w0 W
  at_ : W.heap[G]? = some (.cells #[va, .int .i64 0, c2, c3, .int .i64 0, .int .i64 0] 28)
  hs : W.ownsRow w0.heap.size 33 3 c2 hs.length (hs.flatMap Ho.cs)
  rs : W.ownsRow w0.heap.size 36 2 c3 rs.length (rs.flatMap reC)
  ge : w0.heap.size ≤ G
section
variable {w0 W W' : World} {G : Nat} {va c2 c3 : Value} {hs : List Ho} {rs : List (Int × Int)}
theorem TS.ext (h : TS w0 G W va c2 c3 hs rs) (x : Ext W W') : TS w0 G W' va c2 c3 hs rs := ⟨h.low.trans x, (x.block _ (Rg.lt_of_heap h.at_)).trans h.at_, row_ext h.hs x, row_ext h.rs x, h.ge⟩
theorem TS.c (h : TS w0 G W va c2 c3 hs rs) : W.cell? ⟨G, 0, none⟩ = some va ∧ W.cell? ⟨G, 1, none⟩ = some (.int .i64 0) ∧ W.cell? ⟨G, 2, none⟩ = some c2 ∧ W.cell? ⟨G, 3, none⟩ = some c3 ∧ W.cell? ⟨G, 4, none⟩ = some (.int .i64 0) ∧ W.cell? ⟨G, 5, none⟩ = some (.int .i64 0) :=
  ⟨cell_of_row W G 0 _ _ _ h.at_, cell_of_row W G 1 _ _ _ h.at_, cell_of_row W G 2 _ _ _ h.at_, cell_of_row W G 3 _ _ _ h.at_, cell_of_row W G 4 _ _ _ h.at_, cell_of_row W G 5 _ _ _ h.at_⟩
theorem TS.pushH (h : TS w0 G W va c2 c3 hs rs) {v : Value} {p : List Ho} (hg : W.grownBy W' c2.ownBlock) (hr : W'.ownsRow w0.heap.size 33 3 v (hs ++ p).length ((hs ++ p).flatMap Ho.cs)) : TS w0 G (W'.setCell ⟨G, 2, none⟩ v) va v c3 (hs ++ p) rs := by
  have hD := row_other h.hs (by decide) hg h.at_
  exact ⟨Ext.setCell (row_grown h.low h.hs (Nat.le_refl _) hg) h.ge _, (heap_setCell_row _ hD).trans rfl, own_cell hr hD (by decide) _, keep2 (V := W) h.hs hg h.at_ (by decide) (by decide) (by decide) h.rs, h.ge⟩
theorem TS.pushR (h : TS w0 G W va c2 c3 hs rs) {v : Value} {p : List (Int × Int)} (hg : W.grownBy W' c3.ownBlock) (hr : W'.ownsRow w0.heap.size 36 2 v (rs ++ p).length ((rs ++ p).flatMap reC)) : TS w0 G (W'.setCell ⟨G, 3, none⟩ v) va c2 v hs (rs ++ p) := by
  have hD := row_other h.rs (by decide) hg h.at_
  exact ⟨Ext.setCell (row_grown h.low h.rs (Nat.le_refl _) hg) h.ge _, (heap_setCell_row _ hD).trans rfl, keep2 (V := W) h.rs hg h.at_ (by decide) (by decide) (by decide) h.hs, own_cell hr hD (by decide) _, h.ge⟩
end
theorem Mod_ext17 (n m : Int) (hm : 0 < m) (hm2 : m ≤ 1000000) (hn : OkI n) (w : World) : Calls Try.prog 17 #[.int .i64 n, .int .i64 m] w fun e w' => e = .returned (.int .i64 (modZ n m)) ∧ Ext w w' :=
  (Mod_any n m hm hm2 hn w).mono fun e w' ⟨h1, h2⟩ => ⟨h1, h2 ▸ Ext.refl _⟩
set_option maxRecDepth 100000 in
set_option maxHeartbeats 8000000 in
theorem more_walk (A0 : Option Addr) (n0 : Nat) (xs : List Int) (k0 k1 k2 k3 : Int) (W : World) (h0 : IRd W (.slice A0 xs.length n0) xs) (hk0 : OkI k0) (hk1 : OkI k1) (hk2 : OkI k2) (hk3 : OkI k3) :
    Calls Try.prog 5 #[.slice A0 xs.length n0, .agg #[.int .i64 k0, .int .i64 k1, .int .i64 k2, .int .i64 k3]] W fun e W' => e = .returned (.bool true) ∧ Ext W W' := by
  have H0 := Lib.hid h0
  clear h0
  have HQ0 := Lib.hid (fun wz => Mod_ext17 k0 9 (by decide) (by decide) hk0 wz)
  have HQ1 := Lib.hid (fun wz => Mod_ext17 k1 15 (by decide) (by decide) hk1 wz)
  have HQ2 := Lib.hid (fun wz => Mod_ext17 k2 9 (by decide) (by decide) hk2 wz)
  have HQ3 := Lib.hid (fun wz => Mod_ext17 k3 5 (by decide) (by decide) hk3 wz)
  have b0 := modZ_bd k0 (show (0 : Int) < 9 by decide)
  have b1 := modZ_bd k1 (show (0 : Int) < 15 by decide)
  have b2 := modZ_bd k2 (show (0 : Int) < 9 by decide)
  have b3 := modZ_bd k3 (show (0 : Int) < 5 by decide)
  generalize modZ k0 9 = q0 at *
  generalize modZ k1 15 = q1 at *
  generalize modZ k2 9 = q2 at *
  generalize modZ k3 5 = q3 at *
  have HB0 := Lib.hid b0; have HB1 := Lib.hid b1; have HB2 := Lib.hid b2; have HB3 := Lib.hid b3
  clear b0 b1 b2 b3 hk0 hk1 hk2 hk3
  go_enter Try.func5, Try.ntmps5
  go_upto_region 1 with (fail)
  have hx0 : Ext W (W.alloc (.cells #[.int .i64 k0, .int .i64 k1, .int .i64 k2, .int .i64 k3] 38)) := Ext.alloc (Ext.refl _) _
  have hb0 := alloc_at W (.cells #[.int .i64 k0, .int .i64 k1, .int .i64 k2, .int .i64 k3] 38)
  obtain ⟨Q, hQ⟩ : ∃ Q, Q = W.heap.size := ⟨_, rfl⟩
  rw [← hQ] at hb0 ⊢
  clear hQ
  generalize W.alloc (.cells #[.int .i64 k0, .int .i64 k1, .int .i64 k2, .int .i64 k3] 38) = w0 at *
  have HX0 := Lib.hid hx0; have HQB := Lib.hid hb0
  clear hx0 hb0
  go_upto_region 2 with (go_at_call 11; (with_reducible refine (sanity_any _).mono ?_); rintro e w1 ⟨rfl, hx1⟩)
  have HX1 := Lib.hid (HX0.out.trans hx1)
  have HQ1B := Lib.hid ((hx1.block _ (Rg.lt_of_heap HQB.out)).trans HQB.out)
  obtain ⟨s, hs⟩ : ∃ s, s = madS xs := ⟨_, rfl⟩
  have HMA : Hid (∀ wz, Ext W wz → Calls Try.prog 12 #[.slice A0 xs.length n0] wz fun e w' => ∃ c0 c1 c2 c3 c4 c5, e = .returned (.agg #[c0, c1, c2, c3, c4, c5]) ∧ OS wz.heap.size w' c0 c1 c2 c3 c4 c5 s ∧ Ext wz w' ∧ MS s 8 7 5) := Lib.hid fun wz hz => by rw [hs]; exact MadeF_any _ xs wz (H0.out.ext hz)
  clear hs
  have HM1 := Lib.hid (HMA.out w1 HX1.out)
  clear hx1
  go_upto_region 3 with (go_at_call 12; (with_reducible refine HM1.out.mono ?_); rintro e w2 ⟨c0, c1, c2, c3, c4, c5, rfl, hos, hx2, hms⟩; obtain ⟨a0, p0, z1, a2, p2, a3, p3, z4, z5, rfl, rfl, rfl, rfl, rfl, rfl⟩ := hos.form)
  have HS := Lib.hid (hos.box hx2)
  have HMS := Lib.hid hms
  clear hos hms hx2 HM1
  obtain ⟨D, hD⟩ : ∃ D, D = w2.heap.size := ⟨_, rfl⟩
  rw [← hD] at HS ⊢
  clear hD
  generalize w2.alloc (.cells #[.slice a0 s.ps.length p0, .int .i64 z1, .slice a2 s.hs.length p2, .slice a3 s.rs.length p3, .int .i64 z4, .int .i64 z5] 28) = w3 at *
  have HX3 : Hid (Ext W w3) := Lib.hid (HX1.out.trans HS.out.low)
  have HQ3B := Lib.hid ((HS.out.low.block _ (Rg.lt_of_heap HQ1B.out)).trans HQ1B.out)
  have HM2 := Lib.hid (HMA.out w3 HX3.out)
  go_upto_region 4 with (go_at_call 12; (with_reducible refine HM2.out.mono ?_); rintro e w4 ⟨d0, d1, d2, d3, d4, d5, rfl, hot, hx4, hmt⟩; obtain ⟨t0, o0, y1, t2, o2, t3, o3, y4, y5, rfl, rfl, rfl, rfl, rfl, rfl⟩ := hot.form)
  have HT := Lib.hid (hot.box hx4)
  have HMT := Lib.hid hmt
  clear hot hmt hx4 HM2 HX1 HQB HQ1B HX0
  obtain ⟨E, hE⟩ : ∃ E, E = w4.heap.size := ⟨_, rfl⟩
  rw [← hE] at HT ⊢
  clear hE
  generalize w4.alloc (.cells #[.slice t0 s.ps.length o0, .int .i64 y1, .slice t2 s.hs.length o2, .slice t3 s.rs.length o3, .int .i64 y4, .int .i64 y5] 28) = w5 at *
  have m0 : IntKind.i64.wrap (1 + q0) = 1 + q0 := by rw [IntKind.wrap_i64]; have := HB0.out; omega
  have m1 : IntKind.i64.wrap (1 + q1) = 1 + q1 := by rw [IntKind.wrap_i64]; have := HB1.out; omega
  have m2 : IntKind.i64.wrap (1 + q2) = 1 + q2 := by rw [IntKind.wrap_i64]; have := HB2.out; omega
  have m3 : IntKind.i64.wrap (11 + q3) = 11 + q3 := by rw [IntKind.wrap_i64]; have := HB3.out; omega
  have HQC : Hid (∀ wz, Ext w3 wz → wz.cell? ⟨Q, 0, none⟩ = some (.int .i64 k0) ∧ wz.cell? ⟨Q, 1, none⟩ = some (.int .i64 k1) ∧ wz.cell? ⟨Q, 2, none⟩ = some (.int .i64 k2) ∧ wz.cell? ⟨Q, 3, none⟩ = some (.int .i64 k3)) := Lib.hid fun wz hz => by
    have hb := (hz.block _ (Rg.lt_of_heap HQ3B.out)).trans HQ3B.out
    exact ⟨cell_of_row wz Q 0 _ _ _ hb, cell_of_row wz Q 1 _ _ _ hb, cell_of_row wz Q 2 _ _ _ hb, cell_of_row wz Q 3 _ _ _ hb⟩
  have HCT : Hid (∀ wz, Ext w5 wz → wz.cell? ⟨E, 2, none⟩ = some (.slice t2 s.hs.length o2) ∧ wz.cell? ⟨E, 3, none⟩ = some (.slice t3 s.rs.length o3) ∧ wz.cell? ⟨Q, 0, none⟩ = some (.int .i64 k0) ∧ wz.cell? ⟨Q, 1, none⟩ = some (.int .i64 k1) ∧ wz.cell? ⟨Q, 2, none⟩ = some (.int .i64 k2) ∧ wz.cell? ⟨Q, 3, none⟩ = some (.int .i64 k3)) := Lib.hid fun wz hz => ⟨(HT.out.ext hz).c.2.2.1, (HT.out.ext hz).c.2.2.2.1, HQC.out wz (HT.out.low.trans hz)⟩
  refine Rp.wp_regionTE [] [(0, .y), (1, .y), (2, .y), (3, .y), (4, .y), (5, .y), (6, .y), (7, .y), (8, .y), (9, .y), (10, .y), (11, .m)] [12, 13, 14] (fun _ => (.cells #[.int .i64 (1 + q0), .int .i64 (1 + q1)] 36, fun p => .slice (some ⟨p, 0, none⟩) 1 1)) (fun c a d v w h => by have h' : _ ∧ _ := h; exact ⟨(Rr.put_defers a d v).symm.trans h'.1, h'.2⟩) (by kernel_rfl) (by kernel_rfl) ?_
  (refine Rr.wr_y (by simp only [List.getElem?_toArray, List.getElem?_cons_succ, List.getElem?_cons_zero]; rfl) (by rfl) ?_
   apply Exists.intro
   refine ⟨fun wz hw hh => ?_, ?_⟩
   · obtain ⟨hc2, hc3, hc4, hc5, hc6, hc7⟩ := HCT.out wz hw
     go_simp
     (with_reducible exact Rg.up_value)
   simp only [Act.put, List.setIfInBounds_toArray, List.set_cons_zero, List.set_cons_succ])
  (refine Rr.wr_y (by simp only [List.getElem?_toArray, List.getElem?_cons_succ, List.getElem?_cons_zero]; rfl) (by rfl) ?_
   apply Exists.intro
   refine ⟨fun wz hw hh => ?_, ?_⟩
   · obtain ⟨hc2, hc3, hc4, hc5, hc6, hc7⟩ := HCT.out wz hw
     go_simp
     (with_reducible exact Rg.up_value)
   simp only [Act.put, List.setIfInBounds_toArray, List.set_cons_zero, List.set_cons_succ])
  (refine Rr.wr_y (by simp only [List.getElem?_toArray, List.getElem?_cons_succ, List.getElem?_cons_zero]; rfl) (by rfl) ?_
   apply Exists.intro
   refine ⟨fun wz hw hh => ?_, ?_⟩
   · obtain ⟨hc2, hc3, hc4, hc5, hc6, hc7⟩ := HCT.out wz hw
     go_simp
     (with_reducible exact Rg.up_value)
   simp only [Act.put, List.setIfInBounds_toArray, List.set_cons_zero, List.set_cons_succ])
  (refine Rr.wr_y (by simp only [List.getElem?_toArray, List.getElem?_cons_succ, List.getElem?_cons_zero]; rfl) (by rfl) ?_
   apply Exists.intro
   refine ⟨fun wz hw hh => ?_, ?_⟩
   · obtain ⟨hc2, hc3, hc4, hc5, hc6, hc7⟩ := HCT.out wz hw
     go_simp
     (with_reducible exact Rg.up_value)
   simp only [Act.put, List.setIfInBounds_toArray, List.set_cons_zero, List.set_cons_succ])
  (refine Rr.wr_y (by simp only [List.getElem?_toArray, List.getElem?_cons_succ, List.getElem?_cons_zero]; rfl) (by rfl) ?_
   apply Exists.intro
   refine ⟨fun wz hw hh => ?_, ?_⟩
   · go_simp
     apply Rg.up_enter
     (with_reducible refine (HQ0.out _).mono ?_)
     rintro e w3 ⟨rfl, hb3⟩
     exact ⟨rfl, hb3⟩
   simp only [Act.put, List.setIfInBounds_toArray, List.set_cons_zero, List.set_cons_succ])
  (refine Rr.wr_y (by simp only [List.getElem?_toArray, List.getElem?_cons_succ, List.getElem?_cons_zero]; rfl) (by rfl) ?_
   apply Exists.intro
   refine ⟨fun wz hw hh => ?_, ?_⟩
   · obtain ⟨hc2, hc3, hc4, hc5, hc6, hc7⟩ := HCT.out wz hw
     go_simp
     (with_reducible exact Rg.up_value)
   simp only [Act.put, List.setIfInBounds_toArray, List.set_cons_zero, List.set_cons_succ])
  (refine Rr.wr_y (by simp only [List.getElem?_toArray, List.getElem?_cons_succ, List.getElem?_cons_zero]; rfl) (by rfl) ?_
   apply Exists.intro
   refine ⟨fun wz hw hh => ?_, ?_⟩
   · obtain ⟨hc2, hc3, hc4, hc5, hc6, hc7⟩ := HCT.out wz hw
     go_simp
     (with_reducible exact Rg.up_value)
   simp only [Act.put, List.setIfInBounds_toArray, List.set_cons_zero, List.set_cons_succ])
  (refine Rr.wr_y (by simp only [List.getElem?_toArray, List.getElem?_cons_succ, List.getElem?_cons_zero]; rfl) (by rfl) ?_
   apply Exists.intro
   refine ⟨fun wz hw hh => ?_, ?_⟩
   · obtain ⟨hc2, hc3, hc4, hc5, hc6, hc7⟩ := HCT.out wz hw
     go_simp
     (with_reducible exact Rg.up_value)
   simp only [Act.put, List.setIfInBounds_toArray, List.set_cons_zero, List.set_cons_succ])
  (refine Rr.wr_y (by simp only [List.getElem?_toArray, List.getElem?_cons_succ, List.getElem?_cons_zero]; rfl) (by rfl) ?_
   apply Exists.intro
   refine ⟨fun wz hw hh => ?_, ?_⟩
   · go_simp
     apply Rg.up_enter
     (with_reducible refine (HQ1.out _).mono ?_)
     rintro e w3 ⟨rfl, hb3⟩
     exact ⟨rfl, hb3⟩
   simp only [Act.put, List.setIfInBounds_toArray, List.set_cons_zero, List.set_cons_succ])
  (refine Rr.wr_y (by simp only [List.getElem?_toArray, List.getElem?_cons_succ, List.getElem?_cons_zero]; rfl) (by rfl) ?_
   apply Exists.intro
   refine ⟨fun wz hw hh => ?_, ?_⟩
   · obtain ⟨hc2, hc3, hc4, hc5, hc6, hc7⟩ := HCT.out wz hw
     go_simp
     (with_reducible exact Rg.up_value)
   simp only [Act.put, List.setIfInBounds_toArray, List.set_cons_zero, List.set_cons_succ])
  (refine Rr.wr_y (by simp only [List.getElem?_toArray, List.getElem?_cons_succ, List.getElem?_cons_zero]; rfl) (by rfl) ?_
   apply Exists.intro
   refine ⟨fun wz hw hh => ?_, ?_⟩
   · obtain ⟨hc2, hc3, hc4, hc5, hc6, hc7⟩ := HCT.out wz hw
     go_simp
     (with_reducible exact Rg.up_value)
   simp only [Act.put, List.setIfInBounds_toArray, List.set_cons_zero, List.set_cons_succ])
  (refine Rr.wr_m (by simp only [List.getElem?_toArray, List.getElem?_cons_succ, List.getElem?_cons_zero]; rfl) (by rfl) (fun wz => by go_simp) (fun pR hpR => ?_)
   simp only [Act.put, List.setIfInBounds_toArray, List.set_cons_zero, List.set_cons_succ])
  refine Rr.wr_nil ?_
  intro wy hy hh
  obtain ⟨hpge, hpb⟩ := hh _ List.mem_cons_self
  clear hh
  simp only [List.filterMap_cons, List.filterMap_nil, List.getElem?_cons_succ, List.getElem?_cons_zero]
  have HTY := Lib.hid (HT.out.ext hy)
  have hnr := HMT.out.nr
  have hll : s.rs.length < 1000000 := by omega
  have hsz : w3.heap.size ≤ wy.heap.size := HTY.out.low.size
  clear hy
  refine append_g (cs := reC) (z := .agg #[.int .i64 0, .int .i64 0]) 24 36 16 Try.underlying24 (by kernel_rfl) (by rfl) (by decide) (by decide) rfl (.tmp 20) (.tmp 30) rfl w3.heap.size (.slice t3 s.rs.length o3) s.rs (by rfl) HTY.out.os.rs pR (1 + q0, 1 + q1) ⟨rfl, by simp [reC, Value.oneCell']⟩ (by rfl) hpb hll hsz ?_
  intro g7 cap7 w7 hr7 hg7 hat7
  have hp7 := row_other HTY.out.os.rs (by decide) hg7 HTY.out.at_
  have f7 : w7.frozen? ⟨E, 3, none⟩ = false := tab_frozen hp7
  have c7 := cell_of_row w7 E 3 _ _ _ hp7
  change w7.cell? _ = some (.slice t3 s.rs.length o3) at c7
  have HT7 := Lib.hid (HTY.out.pushR (p := [(1 + q0, 1 + q1)]) hg7 hr7 ⟨HTY.out.os.ok.ps, HTY.out.os.ok.hs, fun h hh => (List.mem_append.1 hh).elim (HTY.out.os.ok.rs h) (fun hh => by
    rw [List.mem_singleton] at hh
    subst hh
    have := HB0.out; have := HB1.out
    exact ⟨okI_small (by simp only; omega), okI_small (by simp only; omega)⟩), HTY.out.os.ok.np, HTY.out.os.ok.nh, by simp; omega⟩)
  clear hr7 hg7 hp7 hsz HTY hat7 hpge hpb hpR hll
  simp only [Act.put, List.setIfInBounds_toArray, List.set_cons_zero, List.set_cons_succ]
  go_upto_region 5 with (fail)
  clear f7 c7
  obtain ⟨u3, hu3⟩ : ∃ u3, u3 = Value.slice (some ⟨g7, 0, none⟩) (s.rs.length + 1) cap7 := ⟨_, rfl⟩
  rw [← hu3] at HT7 ⊢
  clear hu3
  generalize w7.setCell ⟨E, 3, none⟩ u3 = w8 at *
  obtain ⟨rsn, hrsn⟩ : ∃ rsn, rsn = s.rs ++ [(1 + q0, 1 + q1)] := ⟨_, rfl⟩
  rw [← hrsn] at HT7
  have HRSN := Lib.hid hrsn
  clear hrsn HCT HT
  have HCT : Hid (∀ wz, Ext w8 wz → wz.cell? ⟨E, 2, none⟩ = some (.slice t2 s.hs.length o2) ∧ wz.cell? ⟨E, 3, none⟩ = some u3 ∧ wz.cell? ⟨Q, 0, none⟩ = some (.int .i64 k0) ∧ wz.cell? ⟨Q, 1, none⟩ = some (.int .i64 k1) ∧ wz.cell? ⟨Q, 2, none⟩ = some (.int .i64 k2) ∧ wz.cell? ⟨Q, 3, none⟩ = some (.int .i64 k3)) := Lib.hid fun wz hz => ⟨(HT7.out.ext hz).c.2.2.1, (HT7.out.ext hz).c.2.2.2.1, HQC.out wz (HT7.out.low.trans hz)⟩
  refine Rp.wp_regionTE [] [(0, .y), (1, .y), (2, .y), (3, .y), (4, .y), (5, .y), (6, .y), (7, .y), (8, .y), (9, .y), (10, .y), (11, .m)] [12, 13, 14] (fun _ => (.cells #[.int .i64 (1 + q2), .int .i64 (11 + q3), .int .i64 3] 33, fun p => .slice (some ⟨p, 0, none⟩) 1 1)) (fun c a d v w h => by have h' : _ ∧ _ := h; exact ⟨(Rr.put_defers a d v).symm.trans h'.1, h'.2⟩) (by kernel_rfl) (by kernel_rfl) ?_
  (refine Rr.wr_y (by simp only [List.getElem?_toArray, List.getElem?_cons_succ, List.getElem?_cons_zero]; rfl) (by rfl) ?_
   apply Exists.intro
   refine ⟨fun wz hw hh => ?_, ?_⟩
   · obtain ⟨hc2, hc3, hc4, hc5, hc6, hc7⟩ := HCT.out wz hw
     go_simp
     (with_reducible exact Rg.up_value)
   simp only [Act.put, List.setIfInBounds_toArray, List.set_cons_zero, List.set_cons_succ])
  (refine Rr.wr_y (by simp only [List.getElem?_toArray, List.getElem?_cons_succ, List.getElem?_cons_zero]; rfl) (by rfl) ?_
   apply Exists.intro
   refine ⟨fun wz hw hh => ?_, ?_⟩
   · obtain ⟨hc2, hc3, hc4, hc5, hc6, hc7⟩ := HCT.out wz hw
     go_simp
     (with_reducible exact Rg.up_value)
   simp only [Act.put, List.setIfInBounds_toArray, List.set_cons_zero, List.set_cons_succ])
  (refine Rr.wr_y (by simp only [List.getElem?_toArray, List.getElem?_cons_succ, List.getElem?_cons_zero]; rfl) (by rfl) ?_
   apply Exists.intro
   refine ⟨fun wz hw hh => ?_, ?_⟩
   · obtain ⟨hc2, hc3, hc4, hc5, hc6, hc7⟩ := HCT.out wz hw
     go_simp
     (with_reducible exact Rg.up_value)
   simp only [Act.put, List.setIfInBounds_toArray, List.set_cons_zero, List.set_cons_succ])
  (refine Rr.wr_y (by simp only [List.getElem?_toArray, List.getElem?_cons_succ, List.getElem?_cons_zero]; rfl) (by rfl) ?_
   apply Exists.intro
   refine ⟨fun wz hw hh => ?_, ?_⟩
   · obtain ⟨hc2, hc3, hc4, hc5, hc6, hc7⟩ := HCT.out wz hw
     go_simp
     (with_reducible exact Rg.up_value)
   simp only [Act.put, List.setIfInBounds_toArray, List.set_cons_zero, List.set_cons_succ])
  (refine Rr.wr_y (by simp only [List.getElem?_toArray, List.getElem?_cons_succ, List.getElem?_cons_zero]; rfl) (by rfl) ?_
   apply Exists.intro
   refine ⟨fun wz hw hh => ?_, ?_⟩
   · go_simp
     apply Rg.up_enter
     (with_reducible refine (HQ2.out _).mono ?_)
     rintro e w3 ⟨rfl, hb3⟩
     exact ⟨rfl, hb3⟩
   simp only [Act.put, List.setIfInBounds_toArray, List.set_cons_zero, List.set_cons_succ])
  (refine Rr.wr_y (by simp only [List.getElem?_toArray, List.getElem?_cons_succ, List.getElem?_cons_zero]; rfl) (by rfl) ?_
   apply Exists.intro
   refine ⟨fun wz hw hh => ?_, ?_⟩
   · obtain ⟨hc2, hc3, hc4, hc5, hc6, hc7⟩ := HCT.out wz hw
     go_simp
     (with_reducible exact Rg.up_value)
   simp only [Act.put, List.setIfInBounds_toArray, List.set_cons_zero, List.set_cons_succ])
  (refine Rr.wr_y (by simp only [List.getElem?_toArray, List.getElem?_cons_succ, List.getElem?_cons_zero]; rfl) (by rfl) ?_
   apply Exists.intro
   refine ⟨fun wz hw hh => ?_, ?_⟩
   · obtain ⟨hc2, hc3, hc4, hc5, hc6, hc7⟩ := HCT.out wz hw
     go_simp
     (with_reducible exact Rg.up_value)
   simp only [Act.put, List.setIfInBounds_toArray, List.set_cons_zero, List.set_cons_succ])
  (refine Rr.wr_y (by simp only [List.getElem?_toArray, List.getElem?_cons_succ, List.getElem?_cons_zero]; rfl) (by rfl) ?_
   apply Exists.intro
   refine ⟨fun wz hw hh => ?_, ?_⟩
   · obtain ⟨hc2, hc3, hc4, hc5, hc6, hc7⟩ := HCT.out wz hw
     go_simp
     (with_reducible exact Rg.up_value)
   simp only [Act.put, List.setIfInBounds_toArray, List.set_cons_zero, List.set_cons_succ])
  (refine Rr.wr_y (by simp only [List.getElem?_toArray, List.getElem?_cons_succ, List.getElem?_cons_zero]; rfl) (by rfl) ?_
   apply Exists.intro
   refine ⟨fun wz hw hh => ?_, ?_⟩
   · go_simp
     apply Rg.up_enter
     (with_reducible refine (HQ3.out _).mono ?_)
     rintro e w3 ⟨rfl, hb3⟩
     exact ⟨rfl, hb3⟩
   simp only [Act.put, List.setIfInBounds_toArray, List.set_cons_zero, List.set_cons_succ])
  (refine Rr.wr_y (by simp only [List.getElem?_toArray, List.getElem?_cons_succ, List.getElem?_cons_zero]; rfl) (by rfl) ?_
   apply Exists.intro
   refine ⟨fun wz hw hh => ?_, ?_⟩
   · obtain ⟨hc2, hc3, hc4, hc5, hc6, hc7⟩ := HCT.out wz hw
     go_simp
     (with_reducible exact Rg.up_value)
   simp only [Act.put, List.setIfInBounds_toArray, List.set_cons_zero, List.set_cons_succ])
  (refine Rr.wr_y (by simp only [List.getElem?_toArray, List.getElem?_cons_succ, List.getElem?_cons_zero]; rfl) (by rfl) ?_
   apply Exists.intro
   refine ⟨fun wz hw hh => ?_, ?_⟩
   · obtain ⟨hc2, hc3, hc4, hc5, hc6, hc7⟩ := HCT.out wz hw
     go_simp
     (with_reducible exact Rg.up_value)
   simp only [Act.put, List.setIfInBounds_toArray, List.set_cons_zero, List.set_cons_succ])
  (refine Rr.wr_m (by simp only [List.getElem?_toArray, List.getElem?_cons_succ, List.getElem?_cons_zero]; rfl) (by rfl) (fun wz => by go_simp) (fun pR hpR => ?_)
   simp only [Act.put, List.setIfInBounds_toArray, List.set_cons_zero, List.set_cons_succ])
  refine Rr.wr_nil ?_
  intro wy hy hh
  obtain ⟨hpge, hpb⟩ := hh _ List.mem_cons_self
  clear hh
  simp only [List.filterMap_cons, List.filterMap_nil, List.getElem?_cons_succ, List.getElem?_cons_zero]
  have HTY := Lib.hid (HT7.out.ext hy)
  have hnh := HMT.out.nh
  have hll : s.hs.length < 1000000 := by omega
  have hsz : w3.heap.size ≤ wy.heap.size := HTY.out.low.size
  clear hy
  refine append_g (cs := Ho.cs) (z := .agg #[.int .i64 0, .int .i64 0, .int .i64 0]) 23 33 24 Try.underlying23 (by kernel_rfl) (by rfl) (by decide) (by decide) rfl (.tmp 34) (.tmp 44) rfl w3.heap.size (.slice t2 s.hs.length o2) s.hs (by rfl) HTY.out.os.hs pR ⟨1 + q2, 11 + q3, 3⟩ ⟨rfl, by simp [Ho.cs, Value.oneCell']⟩ (by rfl) hpb hll hsz ?_
  intro g9 cap9 w9 hr9 hg9 hat9
  have hp9 := row_other HTY.out.os.hs (by decide) hg9 HTY.out.at_
  have f9 : w9.frozen? ⟨E, 2, none⟩ = false := tab_frozen hp9
  have c9 := cell_of_row w9 E 2 _ _ _ hp9
  change w9.cell? _ = some (.slice t2 s.hs.length o2) at c9
  have HT9 := Lib.hid (HTY.out.pushH (p := [⟨1 + q2, 11 + q3, 3⟩]) hg9 hr9 ⟨HTY.out.os.ok.ps, fun h hh => (List.mem_append.1 hh).elim (HTY.out.os.ok.hs h) (fun hh => by
    rw [List.mem_singleton] at hh
    subst hh
    have := HB2.out; have := HB3.out
    exact ⟨okI_small (by simp only; omega), okI_small (by simp only; omega), okI_small (by simp)⟩), HTY.out.os.ok.rs, HTY.out.os.ok.np, by simp; omega, HTY.out.os.ok.nr⟩)
  clear hr9 hg9 hp9 hsz HTY hat9 hpge hpb hpR hll HCT HT7 m0 m1 m2 m3
  simp only [Act.put, List.setIfInBounds_toArray, List.set_cons_zero, List.set_cons_succ]
  go_upto_region 6 with (fail)
  clear f9 c9
  obtain ⟨u2, hu2⟩ : ∃ u2, u2 = Value.slice (some ⟨g9, 0, none⟩) (s.hs.length + 1) cap9 := ⟨_, rfl⟩
  rw [← hu2] at HT9 ⊢
  clear hu2
  generalize w9.setCell ⟨E, 2, none⟩ u2 = w10 at *
  obtain ⟨u0, hu0⟩ : ∃ u0, u0 = Value.slice t0 s.ps.length o0 := ⟨_, rfl⟩
  rw [← hu0] at HT9
  clear hu0
  have HSX := Lib.hid (HS.out.ext HT9.out.low)
  have HXT : Hid (Ext W w10) := Lib.hid (HX3.out.trans HT9.out.low)
  obtain ⟨s0, s1, s2, s3, s4, s5⟩ := HSX.out.c
  go_upto_region 7 with (fail)
  clear s0 s1 s2 s3 s4 s5
  have HTB := Lib.hid (show TS w10 w10.heap.size (w10.alloc (.cells #[.slice a0 s.ps.length p0, .int .i64 0, .slice none 0 0, .slice none 0 0, .int .i64 0, .int .i64 0] 28)) (.slice a0 s.ps.length p0) (.slice none 0 0) (.slice none 0 0) [] [] from ⟨Ext.alloc (Ext.refl _) _, alloc_at w10 _, ⟨rfl, .inl ⟨rfl, rfl⟩⟩, ⟨rfl, .inl ⟨rfl, rfl⟩⟩, Nat.le_refl _⟩)
  obtain ⟨G, hG⟩ : ∃ G, G = w10.heap.size := ⟨_, rfl⟩
  obtain ⟨va, hva⟩ : ∃ va, va = Value.slice a0 s.ps.length p0 := ⟨_, rfl⟩
  rw [← hG, ← hva] at HTB ⊢
  rw [← hva] at HSX
  clear hva hG
  generalize w10.alloc (.cells #[va, .int .i64 0, .slice none 0 0, .slice none 0 0, .int .i64 0, .int .i64 0] 28) = w11 at *
  have hsr : s.rs.length ≤ 5 := HMS.out.nr
  have hsh : s.hs.length ≤ 7 := HMS.out.nh
  obtain ⟨-, -, -, s3, -⟩ := (HSX.out.ext HTB.out.low).c
  go_upto_region 8 with (fail)
  clear s3
  have HSC : Hid (∀ wz, Ext w10 wz → wz.cell? ⟨D, 0, none⟩ = some va ∧ wz.cell? ⟨D, 1, none⟩ = some (.int .i64 z1) ∧ wz.cell? ⟨D, 2, none⟩ = some (.slice a2 s.hs.length p2) ∧ wz.cell? ⟨D, 3, none⟩ = some (.slice a3 s.rs.length p3) ∧ wz.cell? ⟨D, 4, none⟩ = some (.int .i64 z4) ∧ wz.cell? ⟨D, 5, none⟩ = some (.int .i64 z5)) := Lib.hid fun wz hz => (HSX.out.ext hz).c
  have HSU := Lib.hid HSX.out.os.su
  have HSU := Lib.hid HSX.out.os.su
  have HRSU := Lib.hid HSX.out.os.su.rs; have HHSU := Lib.hid HSX.out.os.su.hs
  go_loopw [9] (fun iv wr => ∃ (i : Nat) (c3 : Value) (ls : List (Int × Int)), iv = .int .i64 ((i : Int) - 1) ∧ i ≤ s.rs.length ∧ Hid (ls = ((s.rs.drop i).map fun r => (r.2, r.1)).reverse) ∧ ls.length ≤ 5 ∧ Hid (TS w10 G wr va (.slice none 0 0) c3 [] ls)) (fun iv _ => (iof iv + 1).toNat)
  case atStart => exact ⟨s.rs.length, _, [], rfl, Nat.le_refl _, Lib.hid (by simp), by simp, HTB⟩
  case round =>
    obtain ⟨i0, c3, ls, rfl, hi, HLS, hl5, HT⟩ := hrel
    clear HTB
    obtain ⟨cA, cc, rfl⟩ := row_formG HT.out.rs
    cases i0 with
    | succ i =>
      have hil : i < s.rs.length := by omega
      rw [show ((i + 1 : Nat) : Int) - 1 = (i : Int) by omega]
      obtain ⟨rb, rfl, hrb, r0, r1⟩ := re_at HRSU.out i hil
      have HNX : Hid (ls ++ [(s.rs[i].2, s.rs[i].1)] = ((s.rs.drop i).map fun r => (r.2, r.1)).reverse) := Lib.hid (by rw [HLS.out, List.drop_eq_getElem_cons hil, List.map_cons, List.reverse_cons])
      have HFA : Hid (∀ wz, Ext wr wz → wz.cell? ⟨G, 3, none⟩ = some (.slice cA ls.length cc) ∧ wz.cell? ⟨D, 3, none⟩ = some (.slice (some ⟨rb, 0, none⟩) s.rs.length p3) ∧ wz.cell? ⟨rb, i * 2, none⟩ = some (.int .i64 s.rs[i].1) ∧ wz.cell? ⟨rb, i * 2 + 1, none⟩ = some (.int .i64 s.rs[i].2)) := Lib.hid fun wz hz => ⟨(HT.out.ext hz).c.2.2.2.1, (HSC.out wz (HT.out.low.trans hz)).2.2.2.1, ((HT.out.low.trans hz).cells.1 _ _ hrb).trans r0, ((HT.out.low.trans hz).cells.1 _ _ hrb).trans r1⟩
      have HLN : Hid (ls.length + 1 ≤ 5) := Lib.hid (by have h := congrArg List.length HNX.out; simp at h; omega)
      generalize s.rs[i] = r at *
      obtain ⟨ra, rv⟩ := r
      simp only at HFA HNX
      clear r0 r1 hrb
      go_upto_region 10 with (fail)
      refine Rp.wp_regionTE [] [(0, .y), (1, .y), (2, .y), (3, .y), (4, .y), (5, .y), (6, .y), (7, .y), (8, .y), (9, .y), (10, .y), (11, .y), (12, .y), (13, .y), (14, .y), (15, .m)] [16, 17, 18] (fun _ => (.cells #[.int .i64 rv, .int .i64 ra] 36, fun p => .slice (some ⟨p, 0, none⟩) 1 1)) (fun c a d v w h => by have h' : _ ∧ _ := h; exact ⟨(Rr.put_defers a d v).symm.trans h'.1, h'.2⟩) (by kernel_rfl) (by kernel_rfl) ?_
      (refine Rr.wr_y (by simp only [List.getElem?_toArray, List.getElem?_cons_succ, List.getElem?_cons_zero]; rfl) (by rfl) ?_
       apply Exists.intro
       refine ⟨fun wz hw hh => ?_, ?_⟩
       · obtain ⟨hc2, hc3, hc4, hc5⟩ := HFA.out wz hw
         go_simp
         (with_reducible exact Rg.up_value)
       simp only [Act.put, List.setIfInBounds_toArray, List.set_cons_zero, List.set_cons_succ])
      (refine Rr.wr_y (by simp only [List.getElem?_toArray, List.getElem?_cons_succ, List.getElem?_cons_zero]; rfl) (by rfl) ?_
       apply Exists.intro
       refine ⟨fun wz hw hh => ?_, ?_⟩
       · obtain ⟨hc2, hc3, hc4, hc5⟩ := HFA.out wz hw
         go_simp
         (with_reducible exact Rg.up_value)
       simp only [Act.put, List.setIfInBounds_toArray, List.set_cons_zero, List.set_cons_succ])
      (refine Rr.wr_y (by simp only [List.getElem?_toArray, List.getElem?_cons_succ, List.getElem?_cons_zero]; rfl) (by rfl) ?_
       apply Exists.intro
       refine ⟨fun wz hw hh => ?_, ?_⟩
       · obtain ⟨hc2, hc3, hc4, hc5⟩ := HFA.out wz hw
         go_simp
         (with_reducible exact Rg.up_value)
       simp only [Act.put, List.setIfInBounds_toArray, List.set_cons_zero, List.set_cons_succ])
      (refine Rr.wr_y (by simp only [List.getElem?_toArray, List.getElem?_cons_succ, List.getElem?_cons_zero]; rfl) (by rfl) ?_
       apply Exists.intro
       refine ⟨fun wz hw hh => ?_, ?_⟩
       · obtain ⟨hc2, hc3, hc4, hc5⟩ := HFA.out wz hw
         go_simp
         (with_reducible exact Rg.up_value)
       simp only [Act.put, List.setIfInBounds_toArray, List.set_cons_zero, List.set_cons_succ])
      (refine Rr.wr_y (by simp only [List.getElem?_toArray, List.getElem?_cons_succ, List.getElem?_cons_zero]; rfl) (by rfl) ?_
       apply Exists.intro
       refine ⟨fun wz hw hh => ?_, ?_⟩
       · obtain ⟨hc2, hc3, hc4, hc5⟩ := HFA.out wz hw
         go_simp
         (with_reducible exact Rg.up_value)
       simp only [Act.put, List.setIfInBounds_toArray, List.set_cons_zero, List.set_cons_succ])
      (refine Rr.wr_y (by simp only [List.getElem?_toArray, List.getElem?_cons_succ, List.getElem?_cons_zero]; rfl) (by rfl) ?_
       apply Exists.intro
       refine ⟨fun wz hw hh => ?_, ?_⟩
       · obtain ⟨hc2, hc3, hc4, hc5⟩ := HFA.out wz hw
         go_simp
         (with_reducible exact Rg.up_value)
       simp only [Act.put, List.setIfInBounds_toArray, List.set_cons_zero, List.set_cons_succ])
      (refine Rr.wr_y (by simp only [List.getElem?_toArray, List.getElem?_cons_succ, List.getElem?_cons_zero]; rfl) (by rfl) ?_
       apply Exists.intro
       refine ⟨fun wz hw hh => ?_, ?_⟩
       · obtain ⟨hc2, hc3, hc4, hc5⟩ := HFA.out wz hw
         go_simp
         (with_reducible exact Rg.up_value)
       simp only [Act.put, List.setIfInBounds_toArray, List.set_cons_zero, List.set_cons_succ])
      (refine Rr.wr_y (by simp only [List.getElem?_toArray, List.getElem?_cons_succ, List.getElem?_cons_zero]; rfl) (by rfl) ?_
       apply Exists.intro
       refine ⟨fun wz hw hh => ?_, ?_⟩
       · obtain ⟨hc2, hc3, hc4, hc5⟩ := HFA.out wz hw
         go_simp
         (with_reducible exact Rg.up_value)
       simp only [Act.put, List.setIfInBounds_toArray, List.set_cons_zero, List.set_cons_succ])
      (refine Rr.wr_y (by simp only [List.getElem?_toArray, List.getElem?_cons_succ, List.getElem?_cons_zero]; rfl) (by rfl) ?_
       apply Exists.intro
       refine ⟨fun wz hw hh => ?_, ?_⟩
       · obtain ⟨hc2, hc3, hc4, hc5⟩ := HFA.out wz hw
         go_simp
         (with_reducible exact Rg.up_value)
       simp only [Act.put, List.setIfInBounds_toArray, List.set_cons_zero, List.set_cons_succ])
      (refine Rr.wr_y (by simp only [List.getElem?_toArray, List.getElem?_cons_succ, List.getElem?_cons_zero]; rfl) (by rfl) ?_
       apply Exists.intro
       refine ⟨fun wz hw hh => ?_, ?_⟩
       · obtain ⟨hc2, hc3, hc4, hc5⟩ := HFA.out wz hw
         go_simp
         (with_reducible exact Rg.up_value)
       simp only [Act.put, List.setIfInBounds_toArray, List.set_cons_zero, List.set_cons_succ])
      (refine Rr.wr_y (by simp only [List.getElem?_toArray, List.getElem?_cons_succ, List.getElem?_cons_zero]; rfl) (by rfl) ?_
       apply Exists.intro
       refine ⟨fun wz hw hh => ?_, ?_⟩
       · obtain ⟨hc2, hc3, hc4, hc5⟩ := HFA.out wz hw
         go_simp
         (with_reducible exact Rg.up_value)
       simp only [Act.put, List.setIfInBounds_toArray, List.set_cons_zero, List.set_cons_succ])
      (refine Rr.wr_y (by simp only [List.getElem?_toArray, List.getElem?_cons_succ, List.getElem?_cons_zero]; rfl) (by rfl) ?_
       apply Exists.intro
       refine ⟨fun wz hw hh => ?_, ?_⟩
       · obtain ⟨hc2, hc3, hc4, hc5⟩ := HFA.out wz hw
         go_simp
         (with_reducible exact Rg.up_value)
       simp only [Act.put, List.setIfInBounds_toArray, List.set_cons_zero, List.set_cons_succ])
      (refine Rr.wr_y (by simp only [List.getElem?_toArray, List.getElem?_cons_succ, List.getElem?_cons_zero]; rfl) (by rfl) ?_
       apply Exists.intro
       refine ⟨fun wz hw hh => ?_, ?_⟩
       · obtain ⟨hc2, hc3, hc4, hc5⟩ := HFA.out wz hw
         go_simp
         (with_reducible exact Rg.up_value)
       simp only [Act.put, List.setIfInBounds_toArray, List.set_cons_zero, List.set_cons_succ])
      (refine Rr.wr_y (by simp only [List.getElem?_toArray, List.getElem?_cons_succ, List.getElem?_cons_zero]; rfl) (by rfl) ?_
       apply Exists.intro
       refine ⟨fun wz hw hh => ?_, ?_⟩
       · obtain ⟨hc2, hc3, hc4, hc5⟩ := HFA.out wz hw
         go_simp
         (with_reducible exact Rg.up_value)
       simp only [Act.put, List.setIfInBounds_toArray, List.set_cons_zero, List.set_cons_succ])
      (refine Rr.wr_y (by simp only [List.getElem?_toArray, List.getElem?_cons_succ, List.getElem?_cons_zero]; rfl) (by rfl) ?_
       apply Exists.intro
       refine ⟨fun wz hw hh => ?_, ?_⟩
       · obtain ⟨hc2, hc3, hc4, hc5⟩ := HFA.out wz hw
         go_simp
         (with_reducible exact Rg.up_value)
       simp only [Act.put, List.setIfInBounds_toArray, List.set_cons_zero, List.set_cons_succ])
      (refine Rr.wr_m (by simp only [List.getElem?_toArray, List.getElem?_cons_succ, List.getElem?_cons_zero]; rfl) (by rfl) (fun wz => by go_simp) (fun pR hpR => ?_)
       simp only [Act.put, List.setIfInBounds_toArray, List.set_cons_zero, List.set_cons_succ])
      refine Rr.wr_nil ?_
      intro wy hy hh
      obtain ⟨hpge, hpb⟩ := hh _ List.mem_cons_self
      clear hh
      simp only [List.filterMap_cons, List.filterMap_nil, List.getElem?_cons_succ, List.getElem?_cons_zero]
      have HTY := Lib.hid (HT.out.ext hy)
      have hll : ls.length < 1000000 := by omega
      have hsz : w10.heap.size ≤ wy.heap.size := HTY.out.low.size
      clear hy
      refine append_g (cs := reC) (z := .agg #[.int .i64 0, .int .i64 0]) 24 36 16 Try.underlying24 (by kernel_rfl) (by rfl) (by decide) (by decide) rfl (.tmp 59) (.tmp 73) rfl w10.heap.size (.slice cA ls.length cc) ls (by rfl) HTY.out.rs pR (rv, ra) ⟨rfl, by simp [reC, Value.oneCell']⟩ (by rfl) hpb hll hsz ?_
      intro g7 cap7 w7 hr7 hg7 hat7
      have hp7 := row_other HTY.out.rs (by decide) hg7 HTY.out.at_
      have f7 : w7.frozen? ⟨G, 3, none⟩ = false := tab_frozen hp7
      have c7 := cell_of_row w7 G 3 _ _ _ hp7
      change w7.cell? _ = some (.slice cA ls.length cc) at c7
      have HT7 := Lib.hid (HTY.out.pushR (p := [(rv, ra)]) hg7 hr7)
      clear hr7 hg7 hp7 hsz HTY hat7 hpge hpb hpR hll
      simp only [Act.put, List.setIfInBounds_toArray, List.set_cons_zero, List.set_cons_succ]
      go_wp2_with (fail)
      have m9 : IntKind.i64.wrap ((i : Int) - 1) = (i : Int) - 1 := by rw [IntKind.wrap_i64]; omega
      exact ⟨⟨i, _, _, rfl, by omega, HNX, by simp; have := HLN.out; omega, HT7⟩, by simp [iof]⟩
    | zero =>
      rw [show ((0 : Nat) : Int) - 1 = -1 from rfl]
      have HLA : Hid (ls = (s.rs.map fun r => (r.2, r.1)).reverse) := Lib.hid (by rw [HLS.out, List.drop_zero])
      have HXR : Hid (Ext w10 wr) := Lib.hid HT.out.low
      obtain ⟨-, -, s2, -⟩ := HSC.out wr HT.out.low
      clear hi HLS hl5
      obtain ⟨c3, hc3⟩ : ∃ c3, c3 = Value.slice cA ls.length cc := ⟨_, rfl⟩
      rw [← hc3] at HT
      clear hc3
      go_upto_region 12 with (fail)
      clear s2
      go_loopw [10] (fun iv wr => ∃ (i : Nat) (c2 : Value) (gs : List Ho), iv = .int .i64 ((i : Int) - 1) ∧ i ≤ s.hs.length ∧ Hid (gs = (s.hs.drop i).reverse) ∧ gs.length ≤ 7 ∧ Hid (TS w10 G wr va c2 c3 gs ls)) (fun iv _ => (iof iv + 1).toNat)
      case atStart => exact ⟨s.hs.length, _, [], rfl, Nat.le_refl _, Lib.hid (by simp), by simp, HT⟩
      case round =>
        clear HT
        obtain ⟨i0, c2, gs, rfl, hi, HLS, hl5, HT⟩ := hrel
        obtain ⟨cA, cc, rfl⟩ := row_formG HT.out.hs
        cases i0 with
        | succ i =>
          have hil : i < s.hs.length := by omega
          rw [show ((i + 1 : Nat) : Int) - 1 = (i : Int) by omega]
          obtain ⟨rb, rfl, hrb, r0, r1, r2⟩ := ho_at HHSU.out i hil
          have HNX : Hid (gs ++ [s.hs[i]] = (s.hs.drop i).reverse) := Lib.hid (by rw [HLS.out, List.drop_eq_getElem_cons hil, List.reverse_cons])
          have HFA : Hid (∀ wz, Ext wr wz → wz.cell? ⟨G, 2, none⟩ = some (.slice cA gs.length cc) ∧ wz.cell? ⟨D, 2, none⟩ = some (.slice (some ⟨rb, 0, none⟩) s.hs.length p2) ∧ wz.cell? ⟨rb, i * 3, none⟩ = some (.int .i64 s.hs[i].per) ∧ wz.cell? ⟨rb, i * 3 + 1, none⟩ = some (.int .i64 s.hs[i].bid) ∧ wz.cell? ⟨rb, i * 3 + 2, none⟩ = some (.int .i64 s.hs[i].pct)) := Lib.hid fun wz hz => ⟨(HT.out.ext hz).c.2.2.1, (HSC.out wz (HT.out.low.trans hz)).2.2.1, ((HT.out.low.trans hz).cells.1 _ _ hrb).trans r0, ((HT.out.low.trans hz).cells.1 _ _ hrb).trans r1, ((HT.out.low.trans hz).cells.1 _ _ hrb).trans r2⟩
          have HLN : Hid (gs.length + 1 ≤ 7) := Lib.hid (by have h := congrArg List.length HNX.out; simp at h; omega)
          generalize s.hs[i] = r at *
          obtain ⟨ra, rv, rt⟩ := r
          simp only at HFA HNX
          clear r0 r1 r2 hrb
          go_upto_region 14 with (fail)
          refine Rp.wp_regionTE [] [(0, .y), (1, .y), (2, .y), (3, .y), (4, .y), (5, .y), (6, .y), (7, .m)] [8, 9, 10] (fun _ => (.cells #[.int .i64 ra, .int .i64 rv, .int .i64 rt] 33, fun p => .slice (some ⟨p, 0, none⟩) 1 1)) (fun c a d v w h => by have h' : _ ∧ _ := h; exact ⟨(Rr.put_defers a d v).symm.trans h'.1, h'.2⟩) (by kernel_rfl) (by kernel_rfl) ?_
          (refine Rr.wr_y (by simp only [List.getElem?_toArray, List.getElem?_cons_succ, List.getElem?_cons_zero]; rfl) (by rfl) ?_
           apply Exists.intro
           refine ⟨fun wz hw hh => ?_, ?_⟩
           · obtain ⟨hc2, hc3, hc4, hc5, hc6⟩ := HFA.out wz hw
             go_simp
             (with_reducible exact Rg.up_value)
           simp only [Act.put, List.setIfInBounds_toArray, List.set_cons_zero, List.set_cons_succ])
          (refine Rr.wr_y (by simp only [List.getElem?_toArray, List.getElem?_cons_succ, List.getElem?_cons_zero]; rfl) (by rfl) ?_
           apply Exists.intro
           refine ⟨fun wz hw hh => ?_, ?_⟩
           · obtain ⟨hc2, hc3, hc4, hc5, hc6⟩ := HFA.out wz hw
             go_simp
             (with_reducible exact Rg.up_value)
           simp only [Act.put, List.setIfInBounds_toArray, List.set_cons_zero, List.set_cons_succ])
          (refine Rr.wr_y (by simp only [List.getElem?_toArray, List.getElem?_cons_succ, List.getElem?_cons_zero]; rfl) (by rfl) ?_
           apply Exists.intro
           refine ⟨fun wz hw hh => ?_, ?_⟩
           · obtain ⟨hc2, hc3, hc4, hc5, hc6⟩ := HFA.out wz hw
             go_simp
             (with_reducible exact Rg.up_value)
           simp only [Act.put, List.setIfInBounds_toArray, List.set_cons_zero, List.set_cons_succ])
          (refine Rr.wr_y (by simp only [List.getElem?_toArray, List.getElem?_cons_succ, List.getElem?_cons_zero]; rfl) (by rfl) ?_
           apply Exists.intro
           refine ⟨fun wz hw hh => ?_, ?_⟩
           · obtain ⟨hc2, hc3, hc4, hc5, hc6⟩ := HFA.out wz hw
             go_simp
             (with_reducible exact Rg.up_value)
           simp only [Act.put, List.setIfInBounds_toArray, List.set_cons_zero, List.set_cons_succ])
          (refine Rr.wr_y (by simp only [List.getElem?_toArray, List.getElem?_cons_succ, List.getElem?_cons_zero]; rfl) (by rfl) ?_
           apply Exists.intro
           refine ⟨fun wz hw hh => ?_, ?_⟩
           · obtain ⟨hc2, hc3, hc4, hc5, hc6⟩ := HFA.out wz hw
             go_simp
             (with_reducible exact Rg.up_value)
           simp only [Act.put, List.setIfInBounds_toArray, List.set_cons_zero, List.set_cons_succ])
          (refine Rr.wr_y (by simp only [List.getElem?_toArray, List.getElem?_cons_succ, List.getElem?_cons_zero]; rfl) (by rfl) ?_
           apply Exists.intro
           refine ⟨fun wz hw hh => ?_, ?_⟩
           · obtain ⟨hc2, hc3, hc4, hc5, hc6⟩ := HFA.out wz hw
             go_simp
             (with_reducible exact Rg.up_value)
           simp only [Act.put, List.setIfInBounds_toArray, List.set_cons_zero, List.set_cons_succ])
          (refine Rr.wr_y (by simp only [List.getElem?_toArray, List.getElem?_cons_succ, List.getElem?_cons_zero]; rfl) (by rfl) ?_
           apply Exists.intro
           refine ⟨fun wz hw hh => ?_, ?_⟩
           · obtain ⟨hc2, hc3, hc4, hc5, hc6⟩ := HFA.out wz hw
             go_simp
             (with_reducible exact Rg.up_value)
           simp only [Act.put, List.setIfInBounds_toArray, List.set_cons_zero, List.set_cons_succ])
          (refine Rr.wr_m (by simp only [List.getElem?_toArray, List.getElem?_cons_succ, List.getElem?_cons_zero]; rfl) (by rfl) (fun wz => by go_simp) (fun pR hpR => ?_)
           simp only [Act.put, List.setIfInBounds_toArray, List.set_cons_zero, List.set_cons_succ])
          refine Rr.wr_nil ?_
          intro wy hy hh
          obtain ⟨hpge, hpb⟩ := hh _ List.mem_cons_self
          clear hh
          simp only [List.filterMap_cons, List.filterMap_nil, List.getElem?_cons_succ, List.getElem?_cons_zero]
          have HTY := Lib.hid (HT.out.ext hy)
          have hll : gs.length < 1000000 := by omega
          have hsz : w10.heap.size ≤ wy.heap.size := HTY.out.low.size
          clear hy
          refine append_g (cs := Ho.cs) (z := .agg #[.int .i64 0, .int .i64 0, .int .i64 0]) 23 33 24 Try.underlying23 (by kernel_rfl) (by rfl) (by decide) (by decide) rfl (.tmp 85) (.tmp 91) rfl w10.heap.size (.slice cA gs.length cc) gs (by rfl) HTY.out.hs pR ⟨ra, rv, rt⟩ ⟨rfl, by simp [Ho.cs, Value.oneCell']⟩ (by rfl) hpb hll hsz ?_
          intro g7 cap7 w7 hr7 hg7 hat7
          have hp7 := row_other HTY.out.hs (by decide) hg7 HTY.out.at_
          have f7 : w7.frozen? ⟨G, 2, none⟩ = false := tab_frozen hp7
          have c7 := cell_of_row w7 G 2 _ _ _ hp7
          change w7.cell? _ = some (.slice cA gs.length cc) at c7
          have HT7 := Lib.hid (HTY.out.pushH (p := [⟨ra, rv, rt⟩]) hg7 hr7)
          clear hr7 hg7 hp7 hsz HTY hat7 hpge hpb hpR hll
          simp only [Act.put, List.setIfInBounds_toArray, List.set_cons_zero, List.set_cons_succ]
          have m9 : IntKind.i64.wrap ((i : Int) - 1) = (i : Int) - 1 := by rw [IntKind.wrap_i64]; omega
          go_wp2_with (fail)
          exact ⟨⟨i, _, _, rfl, by omega, HNX, by simp; have := HLN.out; omega, HT7⟩, by simp [iof]⟩
        | zero =>
          rw [show ((0 : Nat) : Int) - 1 = -1 from rfl]
          have HGA : Hid (gs = s.hs.reverse) := Lib.hid (by rw [HLS.out, List.drop_zero])
          go_upto_region 16 with (fail)
          have HTX : Hid (Ext w10 wr) := Lib.hid HT.out.low
          have HSUT : Hid (SuV wr va (.int .i64 0) (.slice cA gs.length cc) c3 (.int .i64 0) (.int .i64 0) ⟨s.ps, s.hs.reverse, (s.rs.map fun r => (r.2, r.1)).reverse⟩) := Lib.hid (by
            have h1 := SR.of_row (cs := Ho.cs) (fun _ => rfl) HT.out.hs (by omega)
            have h2 := SR.of_row (cs := reC) (fun _ => rfl) HT.out.rs (by rw [HLA.out]; simp; omega)
            rw [HGA.out] at h1
            rw [HLA.out] at h2
            rw [HGA.out]
            exact ⟨HSU.out.ps.ext HTX.out, h1, h2, ⟨_, rfl⟩, ⟨_, rfl⟩, ⟨_, rfl⟩, ⟨HSU.out.ok.ps, fun h hh => HSU.out.ok.hs h (List.mem_reverse.1 hh), fun r hr => by
              obtain ⟨q, hq, rfl⟩ := List.mem_map.1 (List.mem_reverse.1 hr)
              exact ⟨(HSU.out.ok.rs q hq).2, (HSU.out.ok.rs q hq).1⟩, HSU.out.ok.np, by simpa using HSU.out.ok.nh, by simpa using HSU.out.ok.nr⟩⟩)
          obtain ⟨b2, hb2⟩ : ∃ b2, b2 = Value.slice cA gs.length cc := ⟨_, rfl⟩
          rw [← hb2] at HSUT HT
          have HCC : Hid (∀ i j : Nat, i ≤ 10 → j ≤ 16 → ∃ (c m : Bool), (c = true → m = true) ∧ ∀ wz, Ext wr wz →
              Calls Try.prog 15 #[.agg #[va, .int .i64 z1, .slice a2 s.hs.length p2, .slice a3 s.rs.length p3, .int .i64 z4, .int .i64 z5], .int .i64 i, .int .i64 j] wz (fun e w' => e = .returned (.bool c) ∧ Ext wz w') ∧
              Calls Try.prog 15 #[.agg #[u0, .int .i64 y1, u2, u3, .int .i64 y4, .int .i64 y5], .int .i64 i, .int .i64 j] wz (fun e w' => e = .returned (.bool m) ∧ Ext wz w') ∧
              Calls Try.prog 15 #[.agg #[va, .int .i64 0, b2, c3, .int .i64 0, .int .i64 0], .int .i64 i, .int .i64 j] wz (fun e w' => e = .returned (.bool c) ∧ Ext wz w')) := Lib.hid fun i j hi hj => by
            refine ⟨confF s i j, confF ⟨s.ps, s.hs ++ [⟨1 + q2, 11 + q3, 3⟩], rsn⟩ i j, fun h => conf_more s.ps s.hs _ s.rs rsn (fun r hr => by rw [HRSN.out]; exact List.mem_append_left _ hr) _ _ h, fun wz hz => ⟨?_, ?_, ?_⟩⟩
            · exact Conflict_any _ _ _ _ _ _ s i j wz (HSU.out.ext (HTX.out.trans hz)) (okI_small (by omega)) (okI_small (by omega))
            · exact Conflict_any _ _ _ _ _ _ _ i j wz (HT9.out.os.su.ext (HTX.out.trans hz)) (okI_small (by omega)) (okI_small (by omega))
            · have h9 := Conflict_any _ _ _ _ _ _ _ i j wz (HSUT.out.ext hz) (okI_small (by omega)) (okI_small (by omega))
              rw [conf_turned s.ps s.hs s.rs] at h9
              exact h9
          have HSS : Hid (∀ wz, Ext wr wz → wz.cell? ⟨D, 0, none⟩ = some va ∧ wz.cell? ⟨D, 1, none⟩ = some (.int .i64 z1) ∧ wz.cell? ⟨D, 2, none⟩ = some (.slice a2 s.hs.length p2) ∧ wz.cell? ⟨D, 3, none⟩ = some (.slice a3 s.rs.length p3) ∧ wz.cell? ⟨D, 4, none⟩ = some (.int .i64 z4) ∧ wz.cell? ⟨D, 5, none⟩ = some (.int .i64 z5) ∧ wz.cell? ⟨E, 0, none⟩ = some u0 ∧ wz.cell? ⟨E, 1, none⟩ = some (.int .i64 y1) ∧ wz.cell? ⟨E, 2, none⟩ = some u2 ∧ wz.cell? ⟨E, 3, none⟩ = some u3 ∧ wz.cell? ⟨E, 4, none⟩ = some (.int .i64 y4) ∧ wz.cell? ⟨E, 5, none⟩ = some (.int .i64 y5) ∧ wz.cell? ⟨G, 0, none⟩ = some va ∧ wz.cell? ⟨G, 1, none⟩ = some (.int .i64 0) ∧ wz.cell? ⟨G, 2, none⟩ = some b2 ∧ wz.cell? ⟨G, 3, none⟩ = some c3 ∧ wz.cell? ⟨G, 4, none⟩ = some (.int .i64 0) ∧ wz.cell? ⟨G, 5, none⟩ = some (.int .i64 0)) := Lib.hid fun wz hz => by
            obtain ⟨a0, a1, a2, a3, a4, a5⟩ := HSC.out wz (HTX.out.trans hz)
            obtain ⟨b0, b1, b2, b3, b4, b5⟩ := (HT9.out.ext (HTX.out.trans hz)).c
            obtain ⟨d0, d1, d2, d3, d4, d5⟩ := (HT.out.ext hz).c
            exact ⟨a0, a1, a2, a3, a4, a5, b0, b1, b2, b3, b4, b5, d0, d1, d2, d3, d4, d5⟩
          have HXF : Hid (Ext W wr) := Lib.hid (HXT.out.trans HTX.out)
          clear HT HSUT HTX HSC HT9 HRSN HSU HRSU HHSU HMS HMT HGA HLA HLS hb2 HQC HQ3B HX3 HS HSX HXR HXT HMA
          obtain ⟨v2, hv2⟩ : ∃ v2, v2 = Value.slice a2 s.hs.length p2 := ⟨_, rfl⟩
          obtain ⟨v3, hv3⟩ : ∃ v3, v3 = Value.slice a3 s.rs.length p3 := ⟨_, rfl⟩
          rw [← hv2, ← hv3] at HSS HCC
          clear hv2 hv3
          rename World => wA
          go_loopw [11] (fun iv wq => ∃ i : Nat, iv = .int .i64 i ∧ i ≤ 10 ∧ Hid (Ext wA wq)) (fun iv _ => 10 - (iof iv).toNat)
          case atStart => exact ⟨0, rfl, by omega, Lib.hid (Ext.refl _)⟩
          case round =>
            rename World => wo
            obtain ⟨i, rfl, hi, HX⟩ := hrel
            by_cases hil : (i : Int) < 10
            · go_upto_region 19 with (fail)
              try rw [show decide ((i : Int) < 10) = true from decide_eq_true hil]
              go_loopw [12] (fun jv wq => ∃ j : Nat, jv = .int .i64 j ∧ 10 ≤ j ∧ j ≤ 16 ∧ Hid (Ext wA wq)) (fun jv _ => 16 - (iof jv).toNat)
              case atStart => exact ⟨10, rfl, by omega, by omega, HX⟩
              case round =>
                obtain ⟨j, rfl, h9, hj, HXQ⟩ := hrel
                clear HX
                by_cases hjl : (j : Int) < 16
                · obtain ⟨c, m, hcm, hca⟩ := HCC.out i j hi hj
                  have HC1 := Lib.hid fun wz hz => (hca wz hz).1
                  have HC2 := Lib.hid fun wz hz => (hca wz hz).2.1
                  have HC3 := Lib.hid fun wz hz => (hca wz hz).2.2
                  obtain ⟨s0, s1, s2, s3, s4, s5, -⟩ := HSS.out wr HXQ.out
                  clear hca
                  cases c with
                  | true =>
                    obtain rfl := hcm rfl
                    go_wp2_with (first
                      | (go_at_call 15; (with_reducible refine (HC1.out _ HXQ.out).mono ?_); rintro e wa ⟨rfl, hxa⟩; have hxA : Ext wA wa := HXQ.out.trans hxa; clear s0 s1 s2 s3 s4 s5; obtain ⟨-, -, -, -, -, -, s0, s1, s2, s3, s4, s5, t0, t1, t2, t3, t4, t5⟩ := HSS.out wa hxA)
                      | (go_at_call 15; (with_reducible refine (HC2.out _ hxA).mono ?_); rintro e wb ⟨rfl, hxb⟩; have hxB : Ext wA wb := hxA.trans hxb; clear s0 s1 s2 s3 s4 s5 t0 t1 t2 t3 t4 t5; obtain ⟨-, -, -, -, -, -, s0, s1, s2, s3, s4, s5, t0, t1, t2, t3, t4, t5⟩ := HSS.out wb hxB)
                      | (go_at_call 15; (with_reducible refine (HC3.out _ hxB).mono ?_); rintro e wc ⟨rfl, hxc⟩; have hxC : Ext wA wc := hxB.trans hxc))
                    exact ⟨⟨j + 1, by simp, by omega, by omega, Lib.hid hxC⟩, by simp [iof]; omega⟩
                  | false =>
                    go_wp2_with (first
                      | (go_at_call 15; (with_reducible refine (HC1.out _ HXQ.out).mono ?_); rintro e wa ⟨rfl, hxa⟩; have hxA : Ext wA wa := HXQ.out.trans hxa; clear s0 s1 s2 s3 s4 s5; obtain ⟨-, -, -, -, -, -, s0, s1, s2, s3, s4, s5, t0, t1, t2, t3, t4, t5⟩ := HSS.out wa hxA)
                      | (go_at_call 15; (with_reducible refine (HC3.out _ hxA).mono ?_); rintro e wc ⟨rfl, hxc⟩; have hxC : Ext wA wc := hxA.trans hxc))
                    exact ⟨⟨j + 1, by simp, by omega, by omega, Lib.hid hxC⟩, by simp [iof]; omega⟩
                · obtain rfl : j = 16 := by omega
                  go_wp2_with (fail)
                  exact ⟨⟨i + 1, by simp, by omega, HXQ⟩, by simp [iof]; omega⟩
            · obtain rfl : i = 10 := by omega
              go_wp2_with (fail)
              go_ret
              exact ⟨rfl, HXF.out.trans HX.out⟩
end Go.Proofs.Ytlekdhhgjhakgaa
