/-
  Made said as a function of its numbers. Conditions: the numbers lie in memory.
-/
import Derived.Test.YtlekdhhgjhakgaaMkB
import Derived.Test.YtlekdhhgjhakgaaRtP
namespace Go.Proofs.Ytlekdhhgjhakgaa
set_option linter.unusedVariables false
set_option linter.unusedSimpArgs false
open Go.RowKit
/-- The next number, and how many have been used then. -/
def nxV (ns : List Int) (pos : Nat) (n : Int) : Int := if h : pos < ns.length then modZ ns[pos] n else 0
def nxP (ns : List Int) (pos : Nat) : Nat := if pos < ns.length then pos + 1 else pos
def pStep (ns : List Int) (st : List Pe × Nat) : List Pe × Nat := (st.1 ++ [⟨1 + nxV ns st.2 6, rolF (nxV ns (nxP ns st.2) 4).toNat, 0⟩], nxP ns (nxP ns st.2))
def rStep (ns : List Int) (st : List (Int × Int) × Nat) : List (Int × Int) × Nat := (st.1 ++ [(1 + nxV ns st.2 9, relN (nxV ns (nxP ns st.2) 11).toNat)], nxP ns (nxP ns st.2))
def hStep (ns : List Int) (st : List Ho × Nat) : List Ho × Nat := (st.1 ++ [⟨1 + nxV ns st.2 9, 11 + nxV ns (nxP ns st.2) 5, nxV ns (nxP ns (nxP ns st.2)) 9 - 1⟩], nxP ns (nxP ns (nxP ns st.2)))
def itF {α : Type} (f : α → α) (a : α) : Nat → α
  | 0 => a
  | n + 1 => f (itF f a n)
def pIt (ns : List Int) : List Pe × Nat := itF (pStep ns) ([], nxP ns 0) (nxV ns 0 7).toNat
def rIt (ns : List Int) : List (Int × Int) × Nat := itF (rStep ns) ([], nxP ns (pIt ns).2) (nxV ns (pIt ns).2 6).toNat
def hIt (ns : List Int) : List Ho × Nat := itF (hStep ns) ([], nxP ns (rIt ns).2) (nxV ns (rIt ns).2 8).toNat
/-- The setup that numbers determine. -/
def madS (ns : List Int) : Su := ⟨(pIt ns).1 ++ [⟨20, 1, 0⟩, ⟨11, 4, 0⟩], (hIt ns).1, (rIt ns).1⟩
set_option maxRecDepth 100000 in
set_option maxHeartbeats 8000000 in
theorem nextF_any {W w : World} {bn : Nat} {v : Value} {ns : List Int} {pos : Nat} (h : NX W w bn v ns pos) (n : Int) (hn : 1 ≤ n ∧ n ≤ 1000000) :
    Calls Try.prog 27 #[.pointer (some ⟨bn, 0, none⟩), .int .i64 n] w fun e w' => ∃ k pos' : Nat, e = .returned (.int .i64 (k : Int)) ∧ (k : Int) < n ∧ (k : Int) = nxV ns pos n ∧ pos' = nxP ns pos ∧ NX W w' bn v ns pos' ∧ w.grownBy w' (some bn) := by

  obtain ⟨A, c, hv, hl, hok, hcl⟩ := h.ird
  subst hv
  have H := Lib.hid h
  have hle := h.le
  have c0 : w.cell? ⟨bn, 0, none⟩ = some (.slice A ns.length c) := cell_of_row w bn 0 _ _ _ h.at_
  have c1 : w.cell? ⟨bn, 1, none⟩ = some (.int .i64 pos) := cell_of_row w bn 1 _ _ _ h.at_
  have f1 : w.frozen? ⟨bn, 1, none⟩ = false := tab_frozen h.at_
  have HCL := Lib.hid hcl
  have HOK := Lib.hid hok
  clear h hcl hok
  go_enter Try.func27, Try.ntmps27
  go_upto_region 1 with (fail)
  by_cases hp : pos < ns.length
  · have HV : Hid (nxV ns pos n = modZ ns[pos] n) := Lib.hid (dif_pos hp)
    have HP : Hid (nxP ns pos = pos + 1) := Lib.hid (if_pos hp)
    go_quiet (fail)
    have HD := Lib.hid (H.out.ext (show Ext w (w.drewN nq) from (by with_reducible repeat (first | exact Ext.refl _ | assumption | apply Ext.drewN | apply Ext.drew | apply Ext.alloc | (refine Ext.setCell ?_ (by simp <;> omega) _) | (refine Ext.trans ?_ (by assumption))))))
    have HGD : Hid (w.grownBy (w.drewN nq) (some bn)) := Lib.hid ⟨rfl, rfl, rfl, Nat.le_refl _, fun _ _ _ => rfl⟩
    generalize w.drewN nq = wd at *
    have e0 : wd.cell? ⟨bn, 0, none⟩ = some (.slice A ns.length c) := cell_of_row wd bn 0 _ _ _ HD.out.at_
    have e1 : wd.cell? ⟨bn, 1, none⟩ = some (.int .i64 pos) := cell_of_row wd bn 1 _ _ _ HD.out.at_
    have g1 : wd.frozen? ⟨bn, 1, none⟩ = false := tab_frozen HD.out.at_
    have hnx : NX W (wd.setCell ⟨bn, 1, none⟩ (.int .i64 ((pos + 1 : Nat) : Int))) bn (.slice A ns.length c) ns (pos + 1) :=
      ⟨Ext.setCell HD.out.low HD.out.ge _, (heap_setCell_row _ HD.out.at_).trans rfl, HD.out.ge, HD.out.ird, by omega⟩
    have hgr : w.grownBy (wd.setCell ⟨bn, 1, none⟩ (.int .i64 ((pos + 1 : Nat) : Int))) (some bn) := ⟨HGD.out.os, HGD.out.tape, HGD.out.output, by rw [World.size_setCell]; exact HGD.out.size, fun k hk hne => (heap_setCell_other _ fun e => hne (by rw [e])).trans (HGD.out.block k hk hne)⟩
    rw [Int.natCast_add, Int.natCast_one] at hnx hgr
    have HNX := Lib.hid hnx; have HGR := Lib.hid hgr
    clear hnx hgr c0 c1 f1
    go_upto_region 4 with (fail)
    generalize wd.setCell ⟨bn, 1, none⟩ (.int .i64 ((pos : Int) + 1)) = w1 at *
    have d0 : w1.cell? ⟨bn, 0, none⟩ = some (.slice A ns.length c) := cell_of_row w1 bn 0 _ _ _ HNX.out.at_
    have d1 : w1.cell? ⟨bn, 1, none⟩ = some (.int .i64 ((pos : Int) + 1)) := cell_of_row w1 bn 1 _ _ _ HNX.out.at_
    obtain ⟨b, off, rfl, hc⟩ := HCL.out.resolve_left (by intro e; rw [e] at hp; simp at hp)
    have hcp : w1.cell? ⟨b, off + pos, none⟩ = some (.int .i64 ns[pos]) := (HNX.out.low.cells.1 _ _ (World.block_lt_of_cell? W _ (hc pos hp))).trans (hc pos hp)
    have hkk := HOK.out _ (List.getElem_mem hp)
    have HM := Lib.hid (fun wz => Mod_any ns[pos] n (by omega) (by omega) hkk wz)
    have HB := Lib.hid (modZ_bd ns[pos] (show 0 < n by omega))
    have hpn : (pos : Int) < (ns.length : Int) := by omega
    clear hc hkk e0 e1 g1
    generalize modZ ns[pos] n = q at *
    generalize ns[pos] = z at *
    have hwp : IntKind.i64.wrap (pos : Int) = (pos : Int) := by rw [IntKind.wrap_i64]; omega
    go_quiet (first | (go_at_call 17; (with_reducible refine Calls.quiet_of_same ((HM.out _).mono fun _ _ h => ⟨h.1, h.2.symm⟩))))
    go_wp2_with (fail)
    go_ret
    exact ⟨q.toNat, pos + 1, by rw [Int.toNat_of_nonneg HB.out.1]; rfl, by rw [Int.toNat_of_nonneg HB.out.1]; exact HB.out.2, by rw [Int.toNat_of_nonneg HB.out.1, HV.out], HP.out.symm, HNX.out.ext (by with_reducible repeat (first | exact Ext.refl _ | assumption | apply Ext.drewN | apply Ext.drew | apply Ext.alloc | (refine Ext.setCell ?_ (by simp <;> omega) _) | (refine Ext.trans ?_ (by assumption)))), ⟨HGR.out.os, HGR.out.tape, HGR.out.output, HGR.out.size, HGR.out.block⟩⟩
  · have HV : Hid (nxV ns pos n = 0) := Lib.hid (dif_neg hp)
    have HP : Hid (nxP ns pos = pos) := Lib.hid (if_neg hp)
    go_quiet (fail)
    go_wp2_with (fail)
    go_ret
    exact ⟨0, pos, rfl, by omega, HV.out.symm, HP.out.symm, H.out.ext (by with_reducible repeat (first | exact Ext.refl _ | assumption | apply Ext.drewN | apply Ext.drew | apply Ext.alloc | (refine Ext.setCell ?_ (by simp <;> omega) _) | (refine Ext.trans ?_ (by assumption)))), ⟨rfl, rfl, rfl, Nat.le_refl _, fun _ _ _ => rfl⟩⟩
/-- Worlds that grow while numbers are taken. -/
@[instance_reducible] def gwF (W : World) (bn : Nat) (v : Value) (ns : List Int) (lim : Nat) : Rt.Gw where
  R w w' := KX bn w w' ∧ (lim ≤ w.heap.size ∧ bn < lim) ∧ (∃ pos, NX W w bn v ns pos) ∧ (∃ pos, NX W w' bn v ns pos)
  lim := lim
  refl h := ⟨KX.of_ext (Ext.refl _), ⟨Nat.le_trans h.2.1.1 h.1.size, h.2.1.2⟩, h.2.2.2, h.2.2.2⟩
  trans h k := ⟨h.1.trans k.1, h.2.1, h.2.2.1, k.2.2.2⟩
  ext h x := ⟨KX.of_ext x, h.2.1, h.2.2.1, h.2.2.1.imp fun _ hp => hp.ext x⟩
  size h := h.1.size
  lim_le h := h.2.1.1
  block h p hp hl := h.1.block p hl fun e => by
    injection e with e
    have := h.2.1.2
    omega
set_option maxRecDepth 100000 in
set_option maxHeartbeats 8000000 in
theorem MadeF_any (v : Value) (ns : List Int) (W : World) (h : IRd W v ns) :
    Calls Try.prog 12 #[v] W fun e w' => ∃ c0 c1 c2 c3 c4 c5, e = .returned (.agg #[c0, c1, c2, c3, c4, c5]) ∧ OS W.heap.size w' c0 c1 c2 c3 c4 c5 (madS ns) ∧ Ext W w' ∧ MS (madS ns) 8 7 5 := by
  obtain ⟨A, c, hv, hl, hok, hcl⟩ := id h
  subst hv
  have HI := Lib.hid h
  clear h hok hcl
  go_enter Try.func12, Try.ntmps12
  go_upto_region 1 with (fail)
  have hx0 : Ext W (W.alloc (.cells #[.slice none 0 0, .int .i64 0, .slice none 0 0, .slice none 0 0, .int .i64 0, .int .i64 0] 28)) := Ext.alloc (Ext.refl _) _
  have hb0 := alloc_at W (.cells #[.slice none 0 0, .int .i64 0, .slice none 0 0, .slice none 0 0, .int .i64 0, .int .i64 0] 28)
  obtain ⟨D0, hD0⟩ : ∃ D0, D0 = W.heap.size := ⟨_, rfl⟩
  rw [← hD0] at hb0 ⊢
  have HD0 := Lib.hid hD0
  clear hD0
  generalize W.alloc (.cells #[.slice none 0 0, .int .i64 0, .slice none 0 0, .slice none 0 0, .int .i64 0, .int .i64 0] 28) = W0 at *
  have hn0 : NX W (W0.alloc (.cells #[.slice A ns.length c, .int .i64 ((0 : Nat) : Int)] 63)) W0.heap.size (.slice A ns.length c) ns 0 := ⟨hx0.trans (Ext.alloc (Ext.refl _) _), alloc_at W0 _, hx0.size, HI.out, Nat.zero_le _⟩
  have hb0a := ((Ext.alloc (Ext.refl W0) (.cells #[.slice A ns.length c, .int .i64 ((0 : Nat) : Int)] 63)).block _ (Rg.lt_of_heap hb0)).trans hb0
  go_upto_region 2 with (fail)
  rw [show ((0 : Nat) : Int) = 0 from rfl] at hn0 hb0a
  obtain ⟨bn, hbn⟩ : ∃ bn, bn = W0.heap.size := ⟨_, rfl⟩
  rw [← hbn] at hn0 ⊢
  clear hbn
  have HN0 := Lib.hid hn0; have HB0 := Lib.hid hb0a
  clear hb0 hx0 hn0 hb0a
  generalize W0.alloc (.cells #[.slice A ns.length c, .int .i64 0] 63) = W1 at *
  have hz := BS.zero W1 (w0 := W) HN0.out.low
  have hxz := Ext.alloc (Ext.refl W1) (.cells #[.slice none 0 0, .int .i64 0, .slice none 0 0, .slice none 0 0, .int .i64 0, .int .i64 0] 28)
  have HN1 := Lib.hid (HN0.out.ext hxz)
  have HB1 := Lib.hid ((hxz.block _ (Rg.lt_of_heap HB0.out)).trans HB0.out)
  have HNE : Hid (D0 < W1.heap.size) := Lib.hid (Rg.lt_of_heap HB0.out)
  obtain ⟨D, hD⟩ : ∃ D, D = W1.heap.size := ⟨_, rfl⟩
  go_upto_region 3 with (fail)
  rw [← hD] at hz HNE ⊢
  have HZ := Lib.hid hz
  clear hD hz hxz HN0 HB0
  generalize W1.alloc (.cells #[.slice none 0 0, .int .i64 0, .slice none 0 0, .slice none 0 0, .int .i64 0, .int .i64 0] 28) = W2 at *
  go_upto_region 4 with (go_at_call 27; (with_reducible refine (nextF_any HN1.out 7 (by decide)).mono ?_); rintro e w3 ⟨k, pos, rfl, k7, hkv, hpv, hnx, hkx⟩; have HKV : Hid ((nxV ns 0 7).toNat = k) := Lib.hid (by rw [← hkv]; rfl); have HP0 : Hid (itF (pStep ns) ([], nxP ns 0) 0 = ([], pos)) := Lib.hid (by rw [hpv]; rfl); clear hkv hpv)
  have HZ3 := Lib.hid (HZ.out.kx HN1.out.at_ HN1.out.ge hkx)
  have HB3 := Lib.hid (KX.cells hkx HN1.out.at_ HB1.out (by decide))
  have HN3 := Lib.hid hnx
  clear HZ HN1 HB1 hnx hkx
  go_upto_region 5 with (fail)
  go_loopw [6] (fun iv wr => ∃ (i : Nat) (pos : Nat) (ps : List Pe) (ov : Value), iv = .int .i64 i ∧ i ≤ k ∧ ps.length = i ∧ Hid (itF (pStep ns) ([], nxP ns 0) i = (ps, pos)) ∧ Hid (MS ⟨ps, [], []⟩ i 0 0) ∧ Hid (∀ p ∈ ps, p.pub = 0) ∧ Hid (BS W D wr ov (.int .i64 0) (.slice none 0 0) (.slice none 0 0) (.int .i64 0) (.int .i64 0) ⟨ps, [], []⟩) ∧ Hid (wr.heap[D0]? = some (.cells #[.slice none 0 0, .int .i64 0, .slice none 0 0, .slice none 0 0, .int .i64 0, .int .i64 0] 28)) ∧ Hid (NX W wr bn (.slice A ns.length c) ns pos)) (fun iv _ => k - (iof iv).toNat)
  case atStart => exact ⟨0, pos, [], _, rfl, by omega, rfl, HP0, Lib.hid ⟨by simp, by simp, by simp, fun p hp => (by cases hp), fun p hp => (by cases hp), fun p hp => (by cases hp)⟩, Lib.hid fun p hp => (by cases hp), HZ3, HB3, HN3⟩
  case round =>
    obtain ⟨i, pos, ps, ov, rfl, hik, hpl, HIT, HMS, HPB, HZ, HB, HN⟩ := hrel
    subst hpl
    clear HZ3 HB3 HN3
    obtain ⟨oA, oc, rfl⟩ := row_formG HZ.out.os.ps
    obtain ⟨c0, -⟩ := HZ.out.c
    by_cases hlt : ps.length < k
    · go_upto_region 7 with (fail)
      have HSS : Hid (∀ wz, KX bn wr wz → wz.cell? ⟨D, 0, none⟩ = some (.slice oA ps.length oc)) := Lib.hid fun wz hz => (HZ.out.kx HN.out.at_ HN.out.ge hz).c.1
      have lbn : bn < wr.heap.size := Rg.lt_of_heap HN.out.at_
      letI G : Rt.Gw := gwF W bn (.slice A ns.length c) ns wr.heap.size
      have hG : Rt.Gw.R wr wr := ⟨KX.of_ext (Ext.refl _), ⟨Nat.le_refl _, lbn⟩, ⟨_, HN.out⟩, ⟨_, HN.out⟩⟩
      refine Ru.wp_regionTE hG [] [(0, .y), (1, .y), (2, .y), (6, .y), (3, .z), (4, .y), (7, .z), (5, .m), (8, .y), (9, .y), (10, .y), (11, .z)] [12, 13, 14] (fun _ => (.cells #[.int .i64 3, .int .i64 3, .int .i64 3, .int .i64 2] 3, fun p => .slice (some ⟨p, 0, none⟩) 4 4)) (fun w => NX W w bn (.slice A ns.length c) ns pos) HN.out (fun _ _ h e => h.ext e) (fun c a d v w h => by have h' : _ ∧ _ := h; exact ⟨(Rr.put_defers a d v).symm.trans h'.1, h'.2⟩) (by kernel_rfl) (by kernel_rfl) ?_
      (refine Rt.wr_y (by simp only [List.getElem?_toArray, List.getElem?_cons_succ, List.getElem?_cons_zero]; rfl) (by rfl) ?_
       apply Exists.intro
       refine ⟨fun wz hw hh => ?_, ?_⟩
       · have hc0 := HSS.out wz hw.1
         go_simp
         (with_reducible exact Rg.up_value)
       simp only [Act.put, List.setIfInBounds_toArray, List.set_cons_zero, List.set_cons_succ])
      (refine Rt.wr_y (by simp only [List.getElem?_toArray, List.getElem?_cons_succ, List.getElem?_cons_zero]; rfl) (by rfl) ?_
       apply Exists.intro
       refine ⟨fun wz hw hh => ?_, ?_⟩
       · have hc0 := HSS.out wz hw.1
         go_simp
         (with_reducible exact Rg.up_value)
       simp only [Act.put, List.setIfInBounds_toArray, List.set_cons_zero, List.set_cons_succ])
      (refine Rt.wr_y (by simp only [List.getElem?_toArray, List.getElem?_cons_succ, List.getElem?_cons_zero]; rfl) (by rfl) ?_
       apply Exists.intro
       refine ⟨fun wz hw hh => ?_, ?_⟩
       · have hc0 := HSS.out wz hw.1
         go_simp
         (with_reducible exact Rg.up_value)
       simp only [Act.put, List.setIfInBounds_toArray, List.set_cons_zero, List.set_cons_succ])
      (refine Rt.wr_y (by simp only [List.getElem?_toArray, List.getElem?_cons_succ, List.getElem?_cons_zero]; rfl) (by rfl) ?_
       apply Exists.intro
       refine ⟨fun wz hw hh => ?_, ?_⟩
       · have hc0 := HSS.out wz hw.1
         go_simp
         (with_reducible exact Rg.up_value)
       simp only [Act.put, List.setIfInBounds_toArray, List.set_cons_zero, List.set_cons_succ])
      (refine Rt.wr_z (fun v _ => ∃ k : Nat, v = .int .i64 (k : Int) ∧ (k : Int) < 6 ∧ (k : Int) = nxV ns pos 6) (fun _ w => NX W w bn (.slice A ns.length c) ns (nxP ns pos)) (by simp only [List.getElem?_toArray, List.getElem?_cons_succ, List.getElem?_cons_zero]; rfl) (by rfl) (fun v w1 w2 h e => h) (fun v w1 w2 h e => h.ext e) (fun wz hw hh hj => ?_) (fun u => ?_)
       · go_simp
         apply Rt.upR_enter
         refine (nextF_any hj 6 (by decide)).mono ?_
         rintro e wq ⟨k, p', rfl, hk, hkv, rfl, hn, hg⟩
         exact ⟨_, rfl, ⟨hg, ⟨Nat.le_trans hw.2.1.1 hw.1.size, hw.2.1.2⟩, ⟨_, hj⟩, ⟨_, hn⟩⟩, ⟨k, rfl, hk, hkv⟩, hn⟩
       simp only [Act.put, List.setIfInBounds_toArray, List.set_cons_zero, List.set_cons_succ])
      rename Value => u3
      (refine Rt.wr_y (by simp only [List.getElem?_toArray, List.getElem?_cons_succ, List.getElem?_cons_zero]; rfl) (by rfl) ⟨.int .i64 (1 + iof u3), fun wz hw hh => ?_, ?_⟩
       · obtain ⟨k3, hk3, hk3l, -⟩ := hh _ List.mem_cons_self
         subst hk3
         have hwr : IntKind.i64.wrap (1 + (k3 : Int)) = 1 + (k3 : Int) := by rw [IntKind.wrap_i64]; omega
         go_simp
         exact Rg.up_value
       simp only [Act.put, List.setIfInBounds_toArray, List.set_cons_zero, List.set_cons_succ])
      (refine Rt.wr_z (fun v _ => ∃ k : Nat, v = .int .i64 (k : Int) ∧ (k : Int) < 4 ∧ (k : Int) = nxV ns (nxP ns pos) 4) (fun _ w => NX W w bn (.slice A ns.length c) ns (nxP ns (nxP ns pos))) (by simp only [List.getElem?_toArray, List.getElem?_cons_succ, List.getElem?_cons_zero]; rfl) (by rfl) (fun v w1 w2 h e => h) (fun v w1 w2 h e => h.ext e) (fun wz hw hh hj => ?_) (fun u => ?_)
       · go_simp
         apply Rt.upR_enter
         refine (nextF_any hj 4 (by decide)).mono ?_
         rintro e wq ⟨k, p', rfl, hk, hkv, rfl, hn, hg⟩
         exact ⟨_, rfl, ⟨hg, ⟨Nat.le_trans hw.2.1.1 hw.1.size, hw.2.1.2⟩, ⟨_, hj⟩, ⟨_, hn⟩⟩, ⟨k, rfl, hk, hkv⟩, hn⟩
       simp only [Act.put, List.setIfInBounds_toArray, List.set_cons_zero, List.set_cons_succ])
      rename Value => u7
      (refine Rt.wr_m (by simp only [List.getElem?_toArray, List.getElem?_cons_succ, List.getElem?_cons_zero]; rfl) (by rfl) (fun wz => by go_simp) (fun pR hpR => ?_)
       simp only [Act.put, List.setIfInBounds_toArray, List.set_cons_zero, List.set_cons_succ])
      (refine Rt.wr_y (by simp only [List.getElem?_toArray, List.getElem?_cons_succ, List.getElem?_cons_zero]; rfl) (by rfl) ⟨.pointer (some ⟨pR, (iof u7).toNat, none⟩), fun wz hw hh => ?_, ?_⟩
       · obtain ⟨k7', hk7, hk7l, -⟩ := hh _ (List.mem_cons_of_mem _ List.mem_cons_self)
         subst hk7
         go_simp
         exact Rg.up_value
       simp only [Act.put, List.setIfInBounds_toArray, List.set_cons_zero, List.set_cons_succ])
      (refine Rt.wr_y (by simp only [List.getElem?_toArray, List.getElem?_cons_succ, List.getElem?_cons_zero]; rfl) (by rfl) ⟨.int .i64 (rolF (iof u7).toNat), fun wz hw hh => ?_, ?_⟩
       · obtain ⟨k7', hk7, hk7l, -⟩ := hh _ (List.mem_cons_of_mem _ List.mem_cons_self)
         obtain ⟨-, -, hbl⟩ := hh _ List.mem_cons_self
         subst hk7
         have hrl := roles_at k7' hk7l wz pR hbl
         go_simp
         exact Rg.up_value
       simp only [Act.put, List.setIfInBounds_toArray, List.set_cons_zero, List.set_cons_succ])
      (refine Rt.wr_y (by simp only [List.getElem?_toArray, List.getElem?_cons_succ, List.getElem?_cons_zero]; rfl) (by rfl) ⟨.agg #[.int .i64 (1 + iof u3), .int .i64 (rolF (iof u7).toNat), .int .i64 0], fun wz hw hh => ?_, ?_⟩
       · go_simp
         exact Rg.up_value
       simp only [Act.put, List.setIfInBounds_toArray, List.set_cons_zero, List.set_cons_succ])
      (refine Rt.wr_zj (fun v w => ∃ p, v = .slice (some ⟨p, 0, none⟩) 1 1 ∧ wr.heap.size ≤ p ∧ w.heap[p]? = some (.cells #[.int .i64 (1 + iof u3), .int .i64 (rolF (iof u7).toNat), .int .i64 0] 50)) (fun _ _ h e => h.ext e) (by simp only [List.getElem?_toArray, List.getElem?_cons_succ, List.getElem?_cons_zero]; rfl) (by rfl) (fun v w1 w2 ⟨p, h1, h2, h3⟩ e => ⟨p, h1, h2, (Rt.Gw.block e p h2 (Rg.lt_of_heap h3)).trans h3⟩) (fun wz hw hh hj => ?_) (fun u => ?_)
       · go_simp
         exact Rt.upR_value (Rt.Gw.alloc (Rt.Gw.refl hw) _) ⟨⟨_, rfl, hw.1.size, alloc_at wz _⟩, hj.ext (Ext.alloc (Ext.refl _) _)⟩
       simp only [Act.put, List.setIfInBounds_toArray, List.set_cons_zero, List.set_cons_succ])
      rename Value => u11
      refine Rt.wr_nil ?_
      intro wy hy hh hn2
      obtain ⟨pe, hpe, -, hpb⟩ := hh _ List.mem_cons_self
      obtain ⟨k7', hk7, hk7l, hk7v⟩ := hh _ (List.mem_cons_of_mem _ (List.mem_cons_of_mem _ List.mem_cons_self))
      obtain ⟨k3, hk3, hk3l, hk3v⟩ := hh _ (List.mem_cons_of_mem _ (List.mem_cons_of_mem _ (List.mem_cons_of_mem _ List.mem_cons_self)))
      subst hpe hk7 hk3
      clear hh
      simp only [List.filterMap_cons, List.filterMap_nil, List.getElem?_cons_succ, List.getElem?_cons_zero]
      have HZY := Lib.hid (HZ.out.kx HN.out.at_ HN.out.ge hy.1)
      have HBY := Lib.hid (KX.cells hy.1 HN.out.at_ HB.out (by decide))
      have HNY := Lib.hid hn2
      have HIT2 : Hid (itF (pStep ns) ([], nxP ns 0) (ps.length + 1) = (ps ++ [⟨1 + (k3 : Int), rolF (iof (.int .i64 (k7' : Int))).toNat, 0⟩], nxP ns (nxP ns pos))) := Lib.hid (by
        show pStep ns (itF (pStep ns) ([], nxP ns 0) ps.length) = _
        rw [HIT.out, hk3v, show iof (.int .i64 (k7' : Int)) = (k7' : Int) from rfl, hk7v]
        rfl)
      clear hk3v hk7v
      have hrb := rolF_bd (iof (.int .i64 (k7' : Int))).toNat
      generalize rolF (iof (.int .i64 (k7' : Int))).toNat = r at *
      rw [show iof (.int .i64 (k3 : Int)) = (k3 : Int) from rfl] at *
      have HMS2 := Lib.hid (HMS.out.pushP ⟨1 + (k3 : Int), r, 0⟩ ⟨by simp only; omega, by simp only; omega, hrb⟩)
      have HPB2 : Hid (∀ p ∈ ps ++ [(⟨1 + (k3 : Int), r, 0⟩ : Pe)], p.pub = 0) := Lib.hid fun p hp => by
        rcases List.mem_append.1 hp with hp | hp
        · exact HPB.out p hp
        · rw [List.mem_singleton] at hp
          subst hp
          rfl
      have hel : ps.length < 1000000 := by omega
      have hsz : W.heap.size ≤ wy.heap.size := HZY.out.low.size
      clear hy hn2 HZ HN HB HMS HPB HSS hG G c0 lbn
      refine append_g (cs := Pe.cs) (z := .agg #[.int .i64 0, .int .i64 0, .int .i64 0]) 26 50 24 Try.underlying26 (by kernel_rfl) (by rfl) (by decide) (by decide) rfl (.tmp 22) (.tmp 32) rfl W.heap.size (.slice oA ps.length oc) ps (by rfl) HZY.out.os.ps pe ⟨1 + (k3 : Int), r, 0⟩ ⟨rfl, by simp [Pe.cs, Value.oneCell']⟩ (by rfl) hpb hel hsz ?_
      intro g7 cap7 w7 hr7 hg7 hat7
      have hp7 := row_other HZY.out.os.ps (by decide) hg7 HZY.out.at_
      have f7 : w7.frozen? ⟨D, 0, none⟩ = false := tab_frozen hp7
      have c7 := cell_of_row w7 D 0 _ _ _ hp7
      change w7.cell? _ = some (.slice oA ps.length oc) at c7
      have HZN := Lib.hid (HZY.out.pushP (p := ⟨1 + (k3 : Int), r, 0⟩) hg7 hr7 (HMS2.out.ok (by omega) (by omega) (by omega) HPB2.out))
      have HBN := Lib.hid ((heap_setCell_other (o := 0) (.slice (some ⟨g7, 0, none⟩) (ps.length + 1) cap7) (Nat.ne_of_lt HNE.out)).trans (row_other HZY.out.os.ps (by decide) hg7 HBY.out))
      have HNN : Hid (NX W (w7.setCell ⟨D, 0, none⟩ (.slice (some ⟨g7, 0, none⟩) (ps.length + 1) cap7)) bn (.slice A ns.length c) ns (nxP ns (nxP ns pos))) := Lib.hid ⟨HZN.out.low, (heap_setCell_other (o := 0) _ (cells_ne HNY.out.at_ HZY.out.at_ (by decide))).trans (row_other HZY.out.os.ps (by decide) hg7 HNY.out.at_), HNY.out.ge, HNY.out.ird, HNY.out.le⟩
      clear hr7 hg7 hat7 hp7 hpb
      simp only [Act.put, List.setIfInBounds_toArray, List.set_cons_zero, List.set_cons_succ]
      go_wp2_with (fail)
      exact ⟨⟨ps.length + 1, _, _, _, by simp, by omega, by simp, HIT2, HMS2, HPB2, HZN, HBN, HNN⟩, by simp [iof]; omega⟩
    · have HPI : Hid (pIt ns = (ps, pos)) := Lib.hid (by unfold pIt; rw [HKV.out, show k = ps.length by omega]; exact HIT.out)
      have HPQ : Hid ((pIt ns).1 ++ [(⟨20, 1, 0⟩ : Pe), ⟨11, 4, 0⟩] = ps ++ [⟨20, 1, 0⟩, ⟨11, 4, 0⟩]) := Lib.hid (by rw [HPI.out])
      have hk6 : ps.length ≤ 6 := by omega
      have hel : ps.length + [(⟨20, 1, 0⟩ : Pe), ⟨11, 4, 0⟩].length ≤ 1000000 := by simp; omega
      have hxa : Ext wr (wr.alloc (.cells #[.int .i64 20, .int .i64 1, .int .i64 0, .int .i64 11, .int .i64 4, .int .i64 0] 50)) := Ext.alloc (Ext.refl _) _
      have HZA := Lib.hid (HZ.out.ext hxa); have HNA := Lib.hid (HN.out.ext hxa)
      have HBA := Lib.hid ((hxa.block _ (Rg.lt_of_heap HB.out)).trans HB.out)
      have hsz : W.heap.size ≤ (wr.alloc (.cells #[.int .i64 20, .int .i64 1, .int .i64 0, .int .i64 11, .int .i64 4, .int .i64 0] 50)).heap.size := HZA.out.low.size
      have hsrc : [(⟨20, 1, 0⟩ : Pe), ⟨11, 4, 0⟩] = [] ∨ ∃ b off, some (⟨wr.heap.size, 0, none⟩ : Addr) = some ⟨b, off, none⟩ ∧ ∀ j u, ([(⟨20, 1, 0⟩ : Pe), ⟨11, 4, 0⟩].flatMap Pe.cs)[j]? = some u → (wr.alloc (.cells #[.int .i64 20, .int .i64 1, .int .i64 0, .int .i64 11, .int .i64 4, .int .i64 0] 50)).cell? ⟨b, off + j, none⟩ = some u := .inr ⟨_, _, rfl, fun j u hj => by
        rw [cell_of_row _ wr.heap.size (0 + j) _ _ _ (alloc_at wr _), Nat.zero_add, ← hj]
        simp [Pe.cs]⟩
      clear hxa
      go_upto_region 9 with (at_builtin; (refine append_rows (cs := Pe.cs) (z := .agg #[.int .i64 0, .int .i64 0, .int .i64 0]) 26 50 24 Try.underlying26 (by kernel_rfl) (by rfl) (by decide) (by decide) rfl (.tmp 36) (.tmp 39) rfl W.heap.size (.slice oA ps.length oc) ps (by rfl) HZA.out.os.ps (fun _ => ⟨rfl, by simp [Pe.cs, Value.oneCell']⟩) _ _ [⟨20, 1, 0⟩, ⟨11, 4, 0⟩] (by rfl) hsrc hel hsz ?_; intro v7 w7 hr7 hg7; obtain ⟨A7, n7, rfl⟩ := row_formG hr7; have HR7 := Lib.hid hr7; have HG7 := Lib.hid hg7; have hp7 := row_other HZA.out.os.ps (by decide) hg7 HZA.out.at_; have f7 : w7.frozen? ⟨D, 0, none⟩ = false := tab_frozen hp7; have c7 : w7.cell? ⟨D, 0, none⟩ = some (.slice oA ps.length oc) := cell_of_row w7 D 0 _ _ _ hp7; clear hr7 hg7 hp7))
      have HMS8 : Hid (MS ⟨ps ++ [⟨20, 1, 0⟩, ⟨11, 4, 0⟩], [], []⟩ (ps.length + 2) 0 0) := Lib.hid (by
        have h9 := (HMS.out.pushP ⟨20, 1, 0⟩ (by decide)).pushP ⟨11, 4, 0⟩ (by decide)
        rwa [List.append_assoc] at h9)
      have HPB8 : Hid (∀ p ∈ ps ++ [(⟨20, 1, 0⟩ : Pe), ⟨11, 4, 0⟩], p.pub = 0) := Lib.hid fun p hp => by
        rcases List.mem_append.1 hp with hp | hp
        · exact HPB.out p hp
        · simp only [List.mem_cons, List.not_mem_nil, or_false] at hp
          rcases hp with rfl | rfl <;> rfl
      have HZ9 := Lib.hid (HZA.out.pushPs (p := [⟨20, 1, 0⟩, ⟨11, 4, 0⟩]) HG7.out HR7.out (HMS8.out.ok (by omega) (by omega) (by omega) HPB8.out))
      have HB9 := Lib.hid ((heap_setCell_other (o := 0) (.slice A7 (ps ++ [(⟨20, 1, 0⟩ : Pe), ⟨11, 4, 0⟩]).length n7) (Nat.ne_of_lt HNE.out)).trans (row_other HZA.out.os.ps (by decide) HG7.out HBA.out))
      have HN9 : Hid (NX W (w7.setCell ⟨D, 0, none⟩ (.slice A7 (ps ++ [(⟨20, 1, 0⟩ : Pe), ⟨11, 4, 0⟩]).length n7)) bn (.slice A ns.length c) ns pos) := Lib.hid ⟨HZ9.out.low, (heap_setCell_other (o := 0) _ (cells_ne HNA.out.at_ HZA.out.at_ (by decide))).trans (row_other HZA.out.os.ps (by decide) HG7.out HNA.out.at_), HNA.out.ge, HNA.out.ird, HNA.out.le⟩
      have HMS9 := Lib.hid (HMS8.out.up (show ps.length + 2 ≤ 8 by omega) (Nat.le_refl 0) (Nat.le_refl 0))
      rw [show (ps ++ [(⟨20, 1, 0⟩ : Pe), ⟨11, 4, 0⟩]).length = ps.length + 2 by simp] at HZ9 HB9 HN9
      clear HR7 HG7 f7 c7 HZA HNA HBA hsrc hel hsz HMS8 HZ HN HB HMS HPB c0
      generalize ps ++ [(⟨20, 1, 0⟩ : Pe), ⟨11, 4, 0⟩] = qs at *
      obtain ⟨v0, hv0⟩ : ∃ v0, v0 = Value.slice A7 (ps.length + 2) n7 := ⟨_, rfl⟩
      rw [← hv0] at HZ9 HB9 HN9 ⊢
      clear hv0
      generalize w7.setCell ⟨D, 0, none⟩ v0 = w9 at *
      go_upto_region 10 with (go_at_call 27; (with_reducible refine (nextF_any HN9.out 6 (by decide)).mono ?_); rintro e w10 ⟨k2, pos2, rfl, k26, hkv, hpv, hnx, hkx⟩; have HKV2 : Hid ((nxV ns (pIt ns).2 6).toNat = k2) := Lib.hid (by rw [HPI.out, ← hkv]; rfl); have HR0 : Hid (itF (rStep ns) ([], nxP ns (pIt ns).2) 0 = ([], pos2)) := Lib.hid (by rw [hpv, HPI.out]; rfl); clear hkv hpv)
      have HZ10 := Lib.hid (HZ9.out.kx HN9.out.at_ HN9.out.ge hkx)
      have HB10 := Lib.hid (KX.cells hkx HN9.out.at_ HB9.out (by decide))
      have HN10 := Lib.hid hnx
      clear HZ9 HN9 HB9 hnx hkx
      go_upto_region 11 with (fail)
      clear hik hlt hk6
      go_loopw [8] (fun iv wr => ∃ (i : Nat) (pos : Nat) (rs : List (Int × Int)) (ov : Value), iv = .int .i64 i ∧ i ≤ k2 ∧ rs.length = i ∧ Hid (itF (rStep ns) ([], nxP ns (pIt ns).2) i = (rs, pos)) ∧ Hid (MS ⟨qs, [], rs⟩ 8 0 i) ∧ Hid (BS W D wr v0 (.int .i64 0) (.slice none 0 0) ov (.int .i64 0) (.int .i64 0) ⟨qs, [], rs⟩) ∧ Hid (wr.heap[D0]? = some (.cells #[.slice none 0 0, .int .i64 0, .slice none 0 0, .slice none 0 0, .int .i64 0, .int .i64 0] 28)) ∧ Hid (NX W wr bn (.slice A ns.length c) ns pos)) (fun iv _ => k2 - (iof iv).toNat)
      case atStart => exact ⟨0, pos2, [], _, rfl, by omega, rfl, HR0, HMS9, HZ10, HB10, HN10⟩
      case round =>
        rename World => wr
        obtain ⟨i, pos, rs, ov, rfl, hik, hpl, HIT, HMS, HZ, HB, HN⟩ := hrel
        subst hpl
        clear HZ10 HB10 HN10 HMS9
        obtain ⟨oA, oc, rfl⟩ := row_formG HZ.out.os.rs
        obtain ⟨-, -, -, c3, -⟩ := HZ.out.c
        by_cases hlt : rs.length < k2
        · go_upto_region 13 with (fail)
          have HSS : Hid (∀ wz, KX bn wr wz → wz.cell? ⟨D, 3, none⟩ = some (.slice oA rs.length oc)) := Lib.hid fun wz hz => (HZ.out.kx HN.out.at_ HN.out.ge hz).c.2.2.2.1
          have lbn : bn < wr.heap.size := Rg.lt_of_heap HN.out.at_
          letI G : Rt.Gw := gwF W bn (.slice A ns.length c) ns wr.heap.size
          have hG : Rt.Gw.R wr wr := ⟨KX.of_ext (Ext.refl _), ⟨Nat.le_refl _, lbn⟩, ⟨_, HN.out⟩, ⟨_, HN.out⟩⟩
          refine Ru.wp_regionTE hG [] [(0, .y), (1, .y), (2, .y), (6, .y), (3, .z), (4, .y), (7, .z), (5, .m), (8, .y), (9, .y), (10, .y), (11, .z)] [12, 13, 14] (fun _ => (.cells #[.int .i64 1, .int .i64 2, .int .i64 3, .int .i64 4, .int .i64 5, .int .i64 7, .int .i64 8, .int .i64 9, .int .i64 11, .int .i64 12, .int .i64 13] 3, fun p => .slice (some ⟨p, 0, none⟩) 11 11)) (fun w => NX W w bn (.slice A ns.length c) ns pos) HN.out (fun _ _ h e => h.ext e) (fun c a d v w h => by have h' : _ ∧ _ := h; exact ⟨(Rr.put_defers a d v).symm.trans h'.1, h'.2⟩) (by kernel_rfl) (by kernel_rfl) ?_
          (refine Rt.wr_y (by simp only [List.getElem?_toArray, List.getElem?_cons_succ, List.getElem?_cons_zero]; rfl) (by rfl) ?_
           apply Exists.intro
           refine ⟨fun wz hw hh => ?_, ?_⟩
           · have hc0 := HSS.out wz hw.1
             go_simp
             (with_reducible exact Rg.up_value)
           simp only [Act.put, List.setIfInBounds_toArray, List.set_cons_zero, List.set_cons_succ])
          (refine Rt.wr_y (by simp only [List.getElem?_toArray, List.getElem?_cons_succ, List.getElem?_cons_zero]; rfl) (by rfl) ?_
           apply Exists.intro
           refine ⟨fun wz hw hh => ?_, ?_⟩
           · have hc0 := HSS.out wz hw.1
             go_simp
             (with_reducible exact Rg.up_value)
           simp only [Act.put, List.setIfInBounds_toArray, List.set_cons_zero, List.set_cons_succ])
          (refine Rt.wr_y (by simp only [List.getElem?_toArray, List.getElem?_cons_succ, List.getElem?_cons_zero]; rfl) (by rfl) ?_
           apply Exists.intro
           refine ⟨fun wz hw hh => ?_, ?_⟩
           · have hc0 := HSS.out wz hw.1
             go_simp
             (with_reducible exact Rg.up_value)
           simp only [Act.put, List.setIfInBounds_toArray, List.set_cons_zero, List.set_cons_succ])
          (refine Rt.wr_y (by simp only [List.getElem?_toArray, List.getElem?_cons_succ, List.getElem?_cons_zero]; rfl) (by rfl) ?_
           apply Exists.intro
           refine ⟨fun wz hw hh => ?_, ?_⟩
           · have hc0 := HSS.out wz hw.1
             go_simp
             (with_reducible exact Rg.up_value)
           simp only [Act.put, List.setIfInBounds_toArray, List.set_cons_zero, List.set_cons_succ])
          (refine Rt.wr_z (fun v _ => ∃ k : Nat, v = .int .i64 (k : Int) ∧ (k : Int) < 9 ∧ (k : Int) = nxV ns pos 9) (fun _ w => NX W w bn (.slice A ns.length c) ns (nxP ns pos)) (by simp only [List.getElem?_toArray, List.getElem?_cons_succ, List.getElem?_cons_zero]; rfl) (by rfl) (fun v w1 w2 h e => h) (fun v w1 w2 h e => h.ext e) (fun wz hw hh hj => ?_) (fun u => ?_)
           · go_simp
             apply Rt.upR_enter
             refine (nextF_any hj 9 (by decide)).mono ?_
             rintro e wq ⟨k, p', rfl, hk, hkv, rfl, hn, hg⟩
             exact ⟨_, rfl, ⟨hg, ⟨Nat.le_trans hw.2.1.1 hw.1.size, hw.2.1.2⟩, ⟨_, hj⟩, ⟨_, hn⟩⟩, ⟨k, rfl, hk, hkv⟩, hn⟩
           simp only [Act.put, List.setIfInBounds_toArray, List.set_cons_zero, List.set_cons_succ])
          rename Value => u3
          (refine Rt.wr_y (by simp only [List.getElem?_toArray, List.getElem?_cons_succ, List.getElem?_cons_zero]; rfl) (by rfl) ⟨.int .i64 (1 + iof u3), fun wz hw hh => ?_, ?_⟩
           · obtain ⟨k3, hk3, hk3l, -⟩ := hh _ List.mem_cons_self
             subst hk3
             have hwr : IntKind.i64.wrap (1 + (k3 : Int)) = 1 + (k3 : Int) := by rw [IntKind.wrap_i64]; omega
             go_simp
             exact Rg.up_value
           simp only [Act.put, List.setIfInBounds_toArray, List.set_cons_zero, List.set_cons_succ])
          (refine Rt.wr_z (fun v _ => ∃ k : Nat, v = .int .i64 (k : Int) ∧ (k : Int) < 11 ∧ (k : Int) = nxV ns (nxP ns pos) 11) (fun _ w => NX W w bn (.slice A ns.length c) ns (nxP ns (nxP ns pos))) (by simp only [List.getElem?_toArray, List.getElem?_cons_succ, List.getElem?_cons_zero]; rfl) (by rfl) (fun v w1 w2 h e => h) (fun v w1 w2 h e => h.ext e) (fun wz hw hh hj => ?_) (fun u => ?_)
           · go_simp
             apply Rt.upR_enter
             refine (nextF_any hj 11 (by decide)).mono ?_
             rintro e wq ⟨k, p', rfl, hk, hkv, rfl, hn, hg⟩
             exact ⟨_, rfl, ⟨hg, ⟨Nat.le_trans hw.2.1.1 hw.1.size, hw.2.1.2⟩, ⟨_, hj⟩, ⟨_, hn⟩⟩, ⟨k, rfl, hk, hkv⟩, hn⟩
           simp only [Act.put, List.setIfInBounds_toArray, List.set_cons_zero, List.set_cons_succ])
          rename Value => u7
          (refine Rt.wr_m (by simp only [List.getElem?_toArray, List.getElem?_cons_succ, List.getElem?_cons_zero]; rfl) (by rfl) (fun wz => by go_simp) (fun pR hpR => ?_)
           simp only [Act.put, List.setIfInBounds_toArray, List.set_cons_zero, List.set_cons_succ])
          (refine Rt.wr_y (by simp only [List.getElem?_toArray, List.getElem?_cons_succ, List.getElem?_cons_zero]; rfl) (by rfl) ⟨.pointer (some ⟨pR, (iof u7).toNat, none⟩), fun wz hw hh => ?_, ?_⟩
           · obtain ⟨k7', hk7, hk7l, -⟩ := hh _ (List.mem_cons_of_mem _ List.mem_cons_self)
             subst hk7
             go_simp
             exact Rg.up_value
           simp only [Act.put, List.setIfInBounds_toArray, List.set_cons_zero, List.set_cons_succ])
          (refine Rt.wr_y (by simp only [List.getElem?_toArray, List.getElem?_cons_succ, List.getElem?_cons_zero]; rfl) (by rfl) ⟨.int .i64 (relN (iof u7).toNat), fun wz hw hh => ?_, ?_⟩
           · obtain ⟨k7', hk7, hk7l, -⟩ := hh _ (List.mem_cons_of_mem _ List.mem_cons_self)
             obtain ⟨-, -, hbl⟩ := hh _ List.mem_cons_self
             subst hk7
             have hrl := rels_at k7' hk7l wz pR hbl
             go_simp
             exact Rg.up_value
           simp only [Act.put, List.setIfInBounds_toArray, List.set_cons_zero, List.set_cons_succ])
          (refine Rt.wr_y (by simp only [List.getElem?_toArray, List.getElem?_cons_succ, List.getElem?_cons_zero]; rfl) (by rfl) ⟨.agg #[.int .i64 (1 + iof u3), .int .i64 (relN (iof u7).toNat)], fun wz hw hh => ?_, ?_⟩
           · go_simp
             exact Rg.up_value
           simp only [Act.put, List.setIfInBounds_toArray, List.set_cons_zero, List.set_cons_succ])
          (refine Rt.wr_zj (fun v w => ∃ p, v = .slice (some ⟨p, 0, none⟩) 1 1 ∧ wr.heap.size ≤ p ∧ w.heap[p]? = some (.cells #[.int .i64 (1 + iof u3), .int .i64 (relN (iof u7).toNat)] 36)) (fun _ _ h e => h.ext e) (by simp only [List.getElem?_toArray, List.getElem?_cons_succ, List.getElem?_cons_zero]; rfl) (by rfl) (fun v w1 w2 ⟨p, h1, h2, h3⟩ e => ⟨p, h1, h2, (Rt.Gw.block e p h2 (Rg.lt_of_heap h3)).trans h3⟩) (fun wz hw hh hj => ?_) (fun u => ?_)
           · go_simp
             exact Rt.upR_value (Rt.Gw.alloc (Rt.Gw.refl hw) _) ⟨⟨_, rfl, hw.1.size, alloc_at wz _⟩, hj.ext (Ext.alloc (Ext.refl _) _)⟩
           simp only [Act.put, List.setIfInBounds_toArray, List.set_cons_zero, List.set_cons_succ])
          rename Value => u11
          refine Rt.wr_nil ?_
          intro wy hy hh hn2
          obtain ⟨pe, hpe, -, hpb⟩ := hh _ List.mem_cons_self
          obtain ⟨k7', hk7, hk7l, hk7v⟩ := hh _ (List.mem_cons_of_mem _ (List.mem_cons_of_mem _ List.mem_cons_self))
          obtain ⟨k3, hk3, hk3l, hk3v⟩ := hh _ (List.mem_cons_of_mem _ (List.mem_cons_of_mem _ (List.mem_cons_of_mem _ List.mem_cons_self)))
          subst hpe hk7 hk3
          clear hh
          simp only [List.filterMap_cons, List.filterMap_nil, List.getElem?_cons_succ, List.getElem?_cons_zero]
          have HZY := Lib.hid (HZ.out.kx HN.out.at_ HN.out.ge hy.1)
          have HBY := Lib.hid (KX.cells hy.1 HN.out.at_ HB.out (by decide))
          have HNY := Lib.hid hn2
          have HIT2 : Hid (itF (rStep ns) ([], nxP ns (pIt ns).2) (rs.length + 1) = (rs ++ [(1 + (k3 : Int), relN (iof (.int .i64 (k7' : Int))).toNat)], nxP ns (nxP ns pos))) := Lib.hid (by
            show rStep ns (itF (rStep ns) ([], nxP ns (pIt ns).2) rs.length) = _
            rw [HIT.out, hk3v, show iof (.int .i64 (k7' : Int)) = (k7' : Int) from rfl, hk7v]
            rfl)
          clear hk3v hk7v
          have hrb := relN_bd (iof (.int .i64 (k7' : Int))).toNat
          generalize relN (iof (.int .i64 (k7' : Int))).toNat = r at *
          rw [show iof (.int .i64 (k3 : Int)) = (k3 : Int) from rfl] at *
          have HMS2 := Lib.hid (HMS.out.pushR (1 + (k3 : Int), r) ⟨by simp only; omega, by simp only; omega, hrb⟩)
          have hel : rs.length < 1000000 := by omega
          have hsz : W.heap.size ≤ wy.heap.size := HZY.out.low.size
          clear hy hn2 HZ HN HB HMS HSS hG G c3 lbn
          refine append_g (cs := reC) (z := .agg #[.int .i64 0, .int .i64 0]) 24 36 16 Try.underlying24 (by kernel_rfl) (by rfl) (by decide) (by decide) rfl (.tmp 50) (.tmp 60) rfl W.heap.size (.slice oA rs.length oc) rs (by rfl) HZY.out.os.rs pe (1 + (k3 : Int), r) ⟨rfl, by simp [reC, Value.oneCell']⟩ (by rfl) hpb hel hsz ?_
          intro g7 cap7 w7 hr7 hg7 hat7
          have hp7 := row_other HZY.out.os.rs (by decide) hg7 HZY.out.at_
          have f7 : w7.frozen? ⟨D, 3, none⟩ = false := tab_frozen hp7
          have c7 := cell_of_row w7 D 3 _ _ _ hp7
          change w7.cell? _ = some (.slice oA rs.length oc) at c7
          have HZN := Lib.hid (HZY.out.pushR (p := [(1 + (k3 : Int), r)]) hg7 hr7 (HMS2.out.ok (by omega) (by omega) (by omega) HPB8.out))
          have HBN := Lib.hid ((heap_setCell_other (o := 3) (.slice (some ⟨g7, 0, none⟩) (rs.length + 1) cap7) (Nat.ne_of_lt HNE.out)).trans (row_other HZY.out.os.rs (by decide) hg7 HBY.out))
          have HNN : Hid (NX W (w7.setCell ⟨D, 3, none⟩ (.slice (some ⟨g7, 0, none⟩) (rs.length + 1) cap7)) bn (.slice A ns.length c) ns (nxP ns (nxP ns pos))) := Lib.hid ⟨HZN.out.low, (heap_setCell_other (o := 3) _ (cells_ne HNY.out.at_ HZY.out.at_ (by decide))).trans (row_other HZY.out.os.rs (by decide) hg7 HNY.out.at_), HNY.out.ge, HNY.out.ird, HNY.out.le⟩
          clear hr7 hg7 hat7 hp7 hpb
          simp only [Act.put, List.setIfInBounds_toArray, List.set_cons_zero, List.set_cons_succ]
          go_wp2_with (fail)
          exact ⟨⟨rs.length + 1, _, _, _, by simp, by omega, by simp, HIT2, HMS2, HZN, HBN, HNN⟩, by simp [iof]; omega⟩
        · have HRI : Hid (rIt ns = (rs, pos)) := Lib.hid (by unfold rIt; rw [HKV2.out, show k2 = rs.length by omega]; exact HIT.out)
          have hr5 : rs.length ≤ 5 := by omega
          have HMS3 := Lib.hid (HMS.out.up (Nat.le_refl 8) (Nat.le_refl 0) hr5)
          have hvl : rs.length = rs.length := rfl
          obtain ⟨v3, hv3⟩ : ∃ v3, v3 = Value.slice oA rs.length oc := ⟨_, rfl⟩
          rw [← hv3] at HZ
          clear hv3 c3
          go_upto_region 15 with (go_at_call 27; (with_reducible refine (nextF_any HN.out 8 (by decide)).mono ?_); rintro e w14 ⟨k4, pos4, rfl, k48, hkv, hpv, hnx, hkx⟩; have HKV4 : Hid ((nxV ns (rIt ns).2 8).toNat = k4) := Lib.hid (by rw [HRI.out, ← hkv]; rfl); have HH0 : Hid (itF (hStep ns) ([], nxP ns (rIt ns).2) 0 = ([], pos4)) := Lib.hid (by rw [hpv, HRI.out]; rfl); clear hkv hpv)
          have HZ14 := Lib.hid (HZ.out.kx HN.out.at_ HN.out.ge hkx)
          have HB14 := Lib.hid (KX.cells hkx HN.out.at_ HB.out (by decide))
          have HN14 := Lib.hid hnx
          clear HZ HN HB HMS hnx hkx
          go_upto_region 16 with (fail)
          clear hik hlt hvl
          go_loopw [10] (fun iv wr => ∃ (i : Nat) (pos : Nat) (hs : List Ho) (ov : Value), iv = .int .i64 i ∧ i ≤ k4 ∧ hs.length = i ∧ Hid (itF (hStep ns) ([], nxP ns (rIt ns).2) i = (hs, pos)) ∧ Hid (MS ⟨qs, hs, rs⟩ 8 i 5) ∧ Hid (BS W D wr v0 (.int .i64 0) ov v3 (.int .i64 0) (.int .i64 0) ⟨qs, hs, rs⟩) ∧ Hid (wr.heap[D0]? = some (.cells #[.slice none 0 0, .int .i64 0, .slice none 0 0, .slice none 0 0, .int .i64 0, .int .i64 0] 28)) ∧ Hid (NX W wr bn (.slice A ns.length c) ns pos)) (fun iv _ => k4 - (iof iv).toNat)
          case atStart => exact ⟨0, pos4, [], _, rfl, by omega, rfl, HH0, HMS3, HZ14, HB14, HN14⟩
          case round =>
            rename World => wr
            obtain ⟨i, pos, hs, ov, rfl, hik, hpl, HIT, HMS, HZ, HB, HN⟩ := hrel
            subst hpl
            clear HZ14 HB14 HN14 HMS3
            obtain ⟨oA, oc, rfl⟩ := row_formG HZ.out.os.hs
            obtain ⟨-, -, c2, -⟩ := HZ.out.c
            by_cases hlt : hs.length < k4
            · go_upto_region 18 with (fail)
              have HSS : Hid (∀ wz, KX bn wr wz → wz.cell? ⟨D, 2, none⟩ = some (.slice oA hs.length oc)) := Lib.hid fun wz hz => (HZ.out.kx HN.out.at_ HN.out.ge hz).c.2.2.1
              have lbn : bn < wr.heap.size := Rg.lt_of_heap HN.out.at_
              letI G : Rt.Gw := gwF W bn (.slice A ns.length c) ns wr.heap.size
              have hG : Rt.Gw.R wr wr := ⟨KX.of_ext (Ext.refl _), ⟨Nat.le_refl _, lbn⟩, ⟨_, HN.out⟩, ⟨_, HN.out⟩⟩
              refine Ru.wp_regionTE hG [] [(0, .y), (1, .y), (2, .y), (5, .y), (8, .y), (3, .z), (4, .y), (6, .z), (7, .y), (9, .z), (10, .y), (11, .y), (12, .z)] [13, 14, 15] (fun _ => (.cells #[] 3, fun p => .slice (some ⟨p, 0, none⟩) 11 11)) (fun w => NX W w bn (.slice A ns.length c) ns pos) HN.out (fun _ _ h e => h.ext e) (fun c a d v w h => by have h' : _ ∧ _ := h; exact ⟨(Rr.put_defers a d v).symm.trans h'.1, h'.2⟩) (by kernel_rfl) (by kernel_rfl) ?_
              (refine Rt.wr_y (by simp only [List.getElem?_toArray, List.getElem?_cons_succ, List.getElem?_cons_zero]; rfl) (by rfl) ?_
               apply Exists.intro
               refine ⟨fun wz hw hh => ?_, ?_⟩
               · have hc0 := HSS.out wz hw.1
                 go_simp
                 (with_reducible exact Rg.up_value)
               simp only [Act.put, List.setIfInBounds_toArray, List.set_cons_zero, List.set_cons_succ])
              (refine Rt.wr_y (by simp only [List.getElem?_toArray, List.getElem?_cons_succ, List.getElem?_cons_zero]; rfl) (by rfl) ?_
               apply Exists.intro
               refine ⟨fun wz hw hh => ?_, ?_⟩
               · have hc0 := HSS.out wz hw.1
                 go_simp
                 (with_reducible exact Rg.up_value)
               simp only [Act.put, List.setIfInBounds_toArray, List.set_cons_zero, List.set_cons_succ])
              (refine Rt.wr_y (by simp only [List.getElem?_toArray, List.getElem?_cons_succ, List.getElem?_cons_zero]; rfl) (by rfl) ?_
               apply Exists.intro
               refine ⟨fun wz hw hh => ?_, ?_⟩
               · have hc0 := HSS.out wz hw.1
                 go_simp
                 (with_reducible exact Rg.up_value)
               simp only [Act.put, List.setIfInBounds_toArray, List.set_cons_zero, List.set_cons_succ])
              (refine Rt.wr_y (by simp only [List.getElem?_toArray, List.getElem?_cons_succ, List.getElem?_cons_zero]; rfl) (by rfl) ?_
               apply Exists.intro
               refine ⟨fun wz hw hh => ?_, ?_⟩
               · have hc0 := HSS.out wz hw.1
                 go_simp
                 (with_reducible exact Rg.up_value)
               simp only [Act.put, List.setIfInBounds_toArray, List.set_cons_zero, List.set_cons_succ])
              (refine Rt.wr_y (by simp only [List.getElem?_toArray, List.getElem?_cons_succ, List.getElem?_cons_zero]; rfl) (by rfl) ?_
               apply Exists.intro
               refine ⟨fun wz hw hh => ?_, ?_⟩
               · have hc0 := HSS.out wz hw.1
                 go_simp
                 (with_reducible exact Rg.up_value)
               simp only [Act.put, List.setIfInBounds_toArray, List.set_cons_zero, List.set_cons_succ])
              (refine Rt.wr_z (fun v _ => ∃ k : Nat, v = .int .i64 (k : Int) ∧ (k : Int) < 9 ∧ (k : Int) = nxV ns pos 9) (fun _ w => NX W w bn (.slice A ns.length c) ns (nxP ns pos)) (by simp only [List.getElem?_toArray, List.getElem?_cons_succ, List.getElem?_cons_zero]; rfl) (by rfl) (fun v w1 w2 h e => h) (fun v w1 w2 h e => h.ext e) (fun wz hw hh hj => ?_) (fun u => ?_)
               · go_simp
                 apply Rt.upR_enter
                 refine (nextF_any hj 9 (by decide)).mono ?_
                 rintro e wq ⟨k, p', rfl, hk, hkv, rfl, hn, hg⟩
                 exact ⟨_, rfl, ⟨hg, ⟨Nat.le_trans hw.2.1.1 hw.1.size, hw.2.1.2⟩, ⟨_, hj⟩, ⟨_, hn⟩⟩, ⟨k, rfl, hk, hkv⟩, hn⟩
               simp only [Act.put, List.setIfInBounds_toArray, List.set_cons_zero, List.set_cons_succ])
              rename Value => u3
              (refine Rt.wr_y (by simp only [List.getElem?_toArray, List.getElem?_cons_succ, List.getElem?_cons_zero]; rfl) (by rfl) ⟨.int .i64 (1 + iof u3), fun wz hw hh => ?_, ?_⟩
               · obtain ⟨k3, hk3, hk3l, -⟩ := hh _ List.mem_cons_self
                 subst hk3
                 have hwr : IntKind.i64.wrap (1 + (k3 : Int)) = 1 + (k3 : Int) := by rw [IntKind.wrap_i64]; omega
                 go_simp
                 exact Rg.up_value
               simp only [Act.put, List.setIfInBounds_toArray, List.set_cons_zero, List.set_cons_succ])
              (refine Rt.wr_z (fun v _ => ∃ k : Nat, v = .int .i64 (k : Int) ∧ (k : Int) < 5 ∧ (k : Int) = nxV ns (nxP ns pos) 5) (fun _ w => NX W w bn (.slice A ns.length c) ns (nxP ns (nxP ns pos))) (by simp only [List.getElem?_toArray, List.getElem?_cons_succ, List.getElem?_cons_zero]; rfl) (by rfl) (fun v w1 w2 h e => h) (fun v w1 w2 h e => h.ext e) (fun wz hw hh hj => ?_) (fun u => ?_)
               · go_simp
                 apply Rt.upR_enter
                 refine (nextF_any hj 5 (by decide)).mono ?_
                 rintro e wq ⟨k, p', rfl, hk, hkv, rfl, hn, hg⟩
                 exact ⟨_, rfl, ⟨hg, ⟨Nat.le_trans hw.2.1.1 hw.1.size, hw.2.1.2⟩, ⟨_, hj⟩, ⟨_, hn⟩⟩, ⟨k, rfl, hk, hkv⟩, hn⟩
               simp only [Act.put, List.setIfInBounds_toArray, List.set_cons_zero, List.set_cons_succ])
              rename Value => u6
              (refine Rt.wr_y (by simp only [List.getElem?_toArray, List.getElem?_cons_succ, List.getElem?_cons_zero]; rfl) (by rfl) ⟨.int .i64 (11 + iof u6), fun wz hw hh => ?_, ?_⟩
               · obtain ⟨k3, hk3, hk3l, -⟩ := hh _ List.mem_cons_self
                 subst hk3
                 have hwr : IntKind.i64.wrap (11 + (k3 : Int)) = 11 + (k3 : Int) := by rw [IntKind.wrap_i64]; omega
                 go_simp
                 exact Rg.up_value
               simp only [Act.put, List.setIfInBounds_toArray, List.set_cons_zero, List.set_cons_succ])
              (refine Rt.wr_z (fun v _ => ∃ k : Nat, v = .int .i64 (k : Int) ∧ (k : Int) < 9 ∧ (k : Int) = nxV ns (nxP ns (nxP ns pos)) 9) (fun _ w => NX W w bn (.slice A ns.length c) ns (nxP ns (nxP ns (nxP ns pos)))) (by simp only [List.getElem?_toArray, List.getElem?_cons_succ, List.getElem?_cons_zero]; rfl) (by rfl) (fun v w1 w2 h e => h) (fun v w1 w2 h e => h.ext e) (fun wz hw hh hj => ?_) (fun u => ?_)
               · go_simp
                 apply Rt.upR_enter
                 refine (nextF_any hj 9 (by decide)).mono ?_
                 rintro e wq ⟨k, p', rfl, hk, hkv, rfl, hn, hg⟩
                 exact ⟨_, rfl, ⟨hg, ⟨Nat.le_trans hw.2.1.1 hw.1.size, hw.2.1.2⟩, ⟨_, hj⟩, ⟨_, hn⟩⟩, ⟨k, rfl, hk, hkv⟩, hn⟩
               simp only [Act.put, List.setIfInBounds_toArray, List.set_cons_zero, List.set_cons_succ])
              rename Value => u9
              (refine Rt.wr_y (by simp only [List.getElem?_toArray, List.getElem?_cons_succ, List.getElem?_cons_zero]; rfl) (by rfl) ⟨.int .i64 (iof u9 - 1), fun wz hw hh => ?_, ?_⟩
               · obtain ⟨k3, hk3, hk3l, -⟩ := hh _ List.mem_cons_self
                 subst hk3
                 have hwr : IntKind.i64.wrap ((k3 : Int) - 1) = (k3 : Int) - 1 := by rw [IntKind.wrap_i64]; omega
                 go_simp
                 exact Rg.up_value
               simp only [Act.put, List.setIfInBounds_toArray, List.set_cons_zero, List.set_cons_succ])
              (refine Rt.wr_y (by simp only [List.getElem?_toArray, List.getElem?_cons_succ, List.getElem?_cons_zero]; rfl) (by rfl) ⟨.agg #[.int .i64 (1 + iof u3), .int .i64 (11 + iof u6), .int .i64 (iof u9 - 1)], fun wz hw hh => ?_, ?_⟩
               · go_simp
                 exact Rg.up_value
               simp only [Act.put, List.setIfInBounds_toArray, List.set_cons_zero, List.set_cons_succ])
              (refine Rt.wr_zj (fun v w => ∃ p, v = .slice (some ⟨p, 0, none⟩) 1 1 ∧ wr.heap.size ≤ p ∧ w.heap[p]? = some (.cells #[.int .i64 (1 + iof u3), .int .i64 (11 + iof u6), .int .i64 (iof u9 - 1)] 33)) (fun _ _ h e => h.ext e) (by simp only [List.getElem?_toArray, List.getElem?_cons_succ, List.getElem?_cons_zero]; rfl) (by rfl) (fun v w1 w2 ⟨p, h1, h2, h3⟩ e => ⟨p, h1, h2, (Rt.Gw.block e p h2 (Rg.lt_of_heap h3)).trans h3⟩) (fun wz hw hh hj => ?_) (fun u => ?_)
               · go_simp
                 exact Rt.upR_value (Rt.Gw.alloc (Rt.Gw.refl hw) _) ⟨⟨_, rfl, hw.1.size, alloc_at wz _⟩, hj.ext (Ext.alloc (Ext.refl _) _)⟩
               simp only [Act.put, List.setIfInBounds_toArray, List.set_cons_zero, List.set_cons_succ])
              rename Value => u12
              refine Rt.wr_nil ?_
              intro wy hy hh hn2
              obtain ⟨pe, hpe, -, hpb⟩ := hh _ List.mem_cons_self
              obtain ⟨k9, hk9, hk9l, hk9v⟩ := hh _ (List.mem_cons_of_mem _ List.mem_cons_self)
              obtain ⟨k6, hk6, hk6l, hk6v⟩ := hh _ (List.mem_cons_of_mem _ (List.mem_cons_of_mem _ List.mem_cons_self))
              obtain ⟨k3, hk3, hk3l, hk3v⟩ := hh _ (List.mem_cons_of_mem _ (List.mem_cons_of_mem _ (List.mem_cons_of_mem _ List.mem_cons_self)))
              subst hpe hk9 hk6 hk3
              clear hh
              simp only [List.filterMap_cons, List.filterMap_nil, List.getElem?_cons_succ, List.getElem?_cons_zero]
              have HZY := Lib.hid (HZ.out.kx HN.out.at_ HN.out.ge hy.1)
              have HBY := Lib.hid (KX.cells hy.1 HN.out.at_ HB.out (by decide))
              have HNY := Lib.hid hn2
              rw [show iof (.int .i64 (k3 : Int)) = (k3 : Int) from rfl, show iof (.int .i64 (k6 : Int)) = (k6 : Int) from rfl, show iof (.int .i64 (k9 : Int)) = (k9 : Int) from rfl] at *
              have HIT2 : Hid (itF (hStep ns) ([], nxP ns (rIt ns).2) (hs.length + 1) = (hs ++ [⟨1 + (k3 : Int), 11 + (k6 : Int), (k9 : Int) - 1⟩], nxP ns (nxP ns (nxP ns pos)))) := Lib.hid (by
                show hStep ns (itF (hStep ns) ([], nxP ns (rIt ns).2) hs.length) = _
                rw [HIT.out, hk3v, hk6v, hk9v]
                rfl)
              clear hk3v hk6v hk9v
              have HMS2 := Lib.hid (HMS.out.pushH ⟨1 + (k3 : Int), 11 + (k6 : Int), (k9 : Int) - 1⟩ ⟨by simp only; omega, by simp only; omega, by simp only; omega, by simp only; omega, by simp only; omega, by simp only; omega⟩)
              have hel : hs.length < 1000000 := by omega
              have hsz : W.heap.size ≤ wy.heap.size := HZY.out.low.size
              clear hy hn2 HZ HN HB HMS HSS hG G c2 lbn
              refine append_g (cs := Ho.cs) (z := .agg #[.int .i64 0, .int .i64 0, .int .i64 0]) 23 33 24 Try.underlying23 (by kernel_rfl) (by rfl) (by decide) (by decide) rfl (.tmp 71) (.tmp 82) rfl W.heap.size (.slice oA hs.length oc) hs (by rfl) HZY.out.os.hs pe ⟨1 + (k3 : Int), 11 + (k6 : Int), (k9 : Int) - 1⟩ ⟨rfl, by simp [Ho.cs, Value.oneCell']⟩ (by rfl) hpb hel hsz ?_
              intro g7 cap7 w7 hr7 hg7 hat7
              have hp7 := row_other HZY.out.os.hs (by decide) hg7 HZY.out.at_
              have f7 : w7.frozen? ⟨D, 2, none⟩ = false := tab_frozen hp7
              have c7 := cell_of_row w7 D 2 _ _ _ hp7
              change w7.cell? _ = some (.slice oA hs.length oc) at c7
              have HZN := Lib.hid (HZY.out.pushH (p := [⟨1 + (k3 : Int), 11 + (k6 : Int), (k9 : Int) - 1⟩]) hg7 hr7 (HMS2.out.ok (by omega) (by omega) (by omega) HPB8.out))
              have HBN := Lib.hid ((heap_setCell_other (o := 2) (.slice (some ⟨g7, 0, none⟩) (hs.length + 1) cap7) (Nat.ne_of_lt HNE.out)).trans (row_other HZY.out.os.hs (by decide) hg7 HBY.out))
              have HNN : Hid (NX W (w7.setCell ⟨D, 2, none⟩ (.slice (some ⟨g7, 0, none⟩) (hs.length + 1) cap7)) bn (.slice A ns.length c) ns (nxP ns (nxP ns (nxP ns pos)))) := Lib.hid ⟨HZN.out.low, (heap_setCell_other (o := 2) _ (cells_ne HNY.out.at_ HZY.out.at_ (by decide))).trans (row_other HZY.out.os.hs (by decide) hg7 HNY.out.at_), HNY.out.ge, HNY.out.ird, HNY.out.le⟩
              clear hr7 hg7 hat7 hp7 hpb
              simp only [Act.put, List.setIfInBounds_toArray, List.set_cons_zero, List.set_cons_succ]
              go_wp2_with (fail)
              exact ⟨⟨hs.length + 1, _, _, _, by simp, by omega, by simp, HIT2, HMS2, HZN, HBN, HNN⟩, by simp [iof]; omega⟩
            · have HMAD : Hid (madS ns = ⟨qs, hs, rs⟩) := Lib.hid (by
                have h9 : hIt ns = (hs, pos) := by unfold hIt; rw [HKV4.out, show k4 = hs.length by omega]; exact HIT.out
                unfold madS
                rw [HPQ.out, h9, HRI.out])
              have hr7' : hs.length ≤ 7 := by omega
              have HMS4 := Lib.hid (HMS.out.up (Nat.le_refl 8) hr7' (Nat.le_refl 5))
              obtain ⟨c0, c1, c2, c3, c4, c5⟩ := HZ.out.c
              clear HN HMS
              obtain ⟨B0, n0, hv0⟩ := row_formG HZ.out.os.ps
              obtain ⟨B3, n3, hv3⟩ := row_formG HZ.out.os.rs
              change v0 = .slice B0 qs.length n0 at hv0
              change v3 = .slice B3 rs.length n3 at hv3
              subst hv0 hv3
              obtain ⟨row, hrow⟩ : ∃ row : Array Value, row = #[.slice B0 qs.length n0, .int .i64 0, .slice oA hs.length oc, .slice B3 rs.length n3, .int .i64 0, .int .i64 0] := ⟨_, rfl⟩
              have hone : ∀ v ∈ row.toList, v.oneCell' = true := by rw [hrow]; simp [Value.oneCell']
              have hrs : row.size = 6 := by rw [hrow]; rfl
              go_upto_region 19 with (fail)
              go_wp2_with (refine wpList_store_row (hgd := rfl) 28 (.tmp 2) (.tmp 85) rfl D0 (by rfl) row (by rw [hrow]; rfl) _ 28 HB.out (by rw [hrs]; rfl) (by rw [hrs]; kernel_rfl) hone ?_)
              have hfin := setRow_heap wr D0 _ row _ _ HB.out
              have hx6 : Below W.heap.size W (wr.setRow D0 row) := below_setRow HZ.out.low (by have := HD0.out; omega) _
              have hkeep : ∀ g, g ≠ D0 → (wr.setRow D0 row).heap[g]? = wr.heap[g]? := fun g hg => setRow_other wr D0 g _ hg
              have kr : ∀ {v : Value} {xs : List Value} {n B E sz : Nat}, E ≠ 28 → wr.ownsRow B E sz v n xs → (wr.setRow D0 row).ownsRow B E sz v n xs := fun {v xs n B E sz} hE hv => row_keepK hv fun g e => hkeep g (by
                obtain ⟨cs, hc⟩ := row_block hv e
                exact cells_ne hc HB.out hE)
              subst hrow
              refine bodyPost_ret (v := .agg _) (results_cell_row Try.results12 _ _ D0 28 _ _ _ (by rfl) hfin Try.underlying28 rfl (by kernel_rfl)) rfl ⟨_, _, _, _, _, _, rfl, by rw [HMAD.out]; exact ⟨kr (by decide) HZ.out.os.ps, kr (by decide) HZ.out.os.hs, kr (by decide) HZ.out.os.rs, ⟨_, rfl⟩, ⟨_, rfl⟩, ⟨_, rfl⟩, HZ.out.os.ok⟩, hx6, by rw [HMAD.out]; exact HMS4.out⟩
end Go.Proofs.Ytlekdhhgjhakgaa
