/-
  Lemmas of this claim (JeX). Nothing is asked.
-/
import Derived.Test.YteomcpplajeidaaGreatJeW
import Derived.Test.YteomcpplajeidaaGreatJeN
namespace Go.Proofs.YteomcpplajeidaaGreat
set_option linter.unusedVariables false
set_option linter.unusedSimpArgs false
set_option maxRecDepth 100000
open Go.RowKit
def TermAt (p : Nat) (tv : Value) (l : List (ByteArray × Int)) (k k' : Nat) (t : Ex) : Prop :=
  ∀ wz : World, PX 164 wz p tv l k [] → Calls Tryz.prog 212 #[.pointer (some ⟨p, 0, none⟩)] wz fun e w' => ∃ v, e = .returned v ∧ Rd (fun b => wz.heap.size < b) w' t v ∧ PX 164 w' p tv l k' [] ∧ KX p wz w'
set_option maxHeartbeats 8000000 in
theorem formula_any (p : Nat) (tv : Value) (l : List (ByteArray × Int)) (k : Nat) (pos : Nat → Nat) (w : World) (h : PX 164 w p tv l k []) (t0 : Ex) (ps : List (ByteArray × Ex)) (hpos : ∀ i, i ≤ ps.length → pos i < l.length) (hup : ∀ i, i < ps.length → pos i < pos (i + 1)) (hl0 : 0 < l.length) (h0 : TermAt p tv l k (pos 0) t0)
    (hps : ∀ i (hi : i < ps.length), (l[pos i]'(hpos i (Nat.le_of_lt hi))).1 = ps[i].1 ∧ ((ps[i].1.toList == [43]) = true ∨ (ps[i].1.toList == [43]) = false ∧ (ps[i].1.toList == [45]) = true) ∧ TermAt p tv l (pos i + 1) (pos (i + 1)) ps[i].2) (z : ByteArray) (hz : (l[pos ps.length]'(hpos _ (Nat.le_refl _))).1 = z) (hz1 : (z.toList == [43]) = false) (hz2 : (z.toList == [45]) = false) (hkb : ∀ i, i ≤ ps.length → pos i ≤ 100000) :
    Calls Tryz.prog 206 #[.pointer (some ⟨p, 0, none⟩)] w fun e w' => ∃ v, e = .returned v ∧ Rd (fun b => w.heap.size < b) w' (foldT t0 ps) v ∧ PX 164 w' p tv l (pos ps.length) [] ∧ KX p w w' := by
  have HF0 := Lib.hid (fun (wz : World) (hz : PX 164 wz p tv l k []) => h0 wz hz)
  have HTX := Lib.hid (fun j (hj : j < l.length) wz (hz : PX 164 wz p tv l j []) => text_any p tv l j wz hz.c.1 hz.c.2.1 hz.tok hj)
  have HPS := Lib.hid hps
  have HPO := Lib.hid hpos
  have HUP := Lib.hid hup
  have HKB := Lib.hid hkb
  have HP := Lib.hid h
  have HLT := Lib.hid (h.lt (by omega))
  have hpl := Rg.lt_of_heap h.at_
  have HZ := Lib.hid hz
  clear h h0 hps hz hkb hup hl0
  go_enter Tryz.func206, Tryz.ntmps206
  go_upto_region 2 with (go_at_call 212; (with_reducible refine (HF0.out _ (HP.out.ext (by with_reducible repeat (first | exact Ext.refl _ | assumption | apply Ext.drewN | apply Ext.drew | apply Ext.alloc | (refine Ext.setCell ?_ (by simp <;> omega) _) | (refine Ext.trans ?_ (by assumption)))))).mono ?_); rintro e w1 ⟨v1, rfl, hr1, hp1, hx1⟩; obtain ⟨op0, m1, m2, nm0, b0, n0, c0, rfl⟩ := hr1.form; have HX1 : Hid (KX p w w1) := Lib.hid ((KX.of_ext (by with_reducible repeat (first | exact Ext.refl _ | assumption | apply Ext.drewN | apply Ext.drew | apply Ext.alloc | (refine Ext.setCell ?_ (by simp <;> omega) _) | (refine Ext.trans ?_ (by assumption))))).trans hx1); have HD1 := Lib.hid hr1; have HR1 : Hid (w1.heap[w.heap.size]? = some (.cells zero5 33)) := Lib.hid (hx1.at (block_new rfl) (show w.heap.size ≠ p by omega)); have HP1 := Lib.hid hp1; have hsz1 : w.heap.size < w1.heap.size := Nat.lt_of_lt_of_le (by simp) hx1.size; clear hx1 hp1 hr1)
  have hTX : TX w (w1.alloc (.cells #[.string op0, .int .i64 m1, .int .i64 m2, .string nm0, .slice b0 n0 c0] 33)) p w1.heap.size tv l (pos 0) (foldT t0 (ps.take 0)) #[.string op0, .int .i64 m1, .int .i64 m2, .string nm0, .slice b0 n0 c0] :=
    ⟨HP1.out.ext (by with_reducible repeat (first | exact Ext.refl _ | assumption | apply Ext.drewN | apply Ext.drew | apply Ext.alloc | (refine Ext.setCell ?_ (by simp <;> omega) _) | (refine Ext.trans ?_ (by assumption)))), HX1.out.ext (by with_reducible repeat (first | exact Ext.refl _ | assumption | apply Ext.drewN | apply Ext.drew | apply Ext.alloc | (refine Ext.setCell ?_ (by simp <;> omega) _) | (refine Ext.trans ?_ (by assumption)))), block_new rfl, (Rd.frame (fun _ _ _ _ => rfl) (fun b hb => ⟨by have := hb.1; rw [World.size_alloc] at this; omega, by omega⟩) _ _ (Rd.alive _ _ HD1.out)).ext (by with_reducible repeat (first | exact Ext.refl _ | assumption | apply Ext.drewN | apply Ext.drew | apply Ext.alloc | (refine Ext.setCell ?_ (by simp <;> omega) _) | (refine Ext.trans ?_ (by assumption)))), ((Ext.alloc (Ext.refl w1) _).block _ (Rg.lt_of_heap HR1.out)).trans HR1.out, hsz1, hpl⟩
  have HTX0 := Lib.hid hTX
  clear hTX
  obtain ⟨q, hq⟩ : ∃ q, q = w1.heap.size := ⟨_, rfl⟩
  rw [← hq] at HTX0 ⊢
  clear hq
  generalize w1.alloc (.cells #[.string op0, .int .i64 m1, .int .i64 m2, .string nm0, .slice b0 n0 c0] 33) = w2 at *
  clear HX1 HR1 HP1 HD1 hsz1
  go_loopw [4] (fun _ wr => ∃ i cs, i ≤ ps.length ∧ Hid (TX w wr p q tv l (pos i) (foldT t0 (ps.take i)) cs)) (fun _ wr => l.length - posOf wr p)
  case atStart => exact ⟨0, _, Nat.zero_le _, HTX0⟩
  case round =>
    rename World => wr
    obtain ⟨i, cs, hi, HT⟩ := hrel
    by_cases hil : i < ps.length
    · obtain ⟨ha, hb, hc⟩ := HPS.out i hil
      have HTXT := Lib.hid (HTX.out (pos i) (HPO.out i hi))
      rw [ha] at HTXT
      have HFS := Lib.hid (foldT_succ t0 ps i hil)
      have HFY := Lib.hid (fun (wz : World) (hz : PX 164 wz p tv l (pos i + 1) []) => hc wz hz)
      obtain ⟨sy, hsy⟩ : ∃ sy, sy = ps[i] := ⟨_, rfl⟩
      rw [← hsy] at HTXT HFS HFY hb
      obtain ⟨s, y⟩ := sy
      generalize foldT t0 (ps.take i) = t at *
      obtain ⟨opx, x1, x2, nmx, bx, lx, cx, hcs⟩ := HT.out.rd.form
      injection hcs with hcs
      subst hcs
      have hjb := HKB.out i hi
      have HJL := Lib.hid (HPO.out i hi)
      have HJU := Lib.hid (HUP.out i hil)
      have HJM := Lib.hid (HPO.out (i + 1) hil)
      obtain ⟨j, hj⟩ : ∃ j, j = pos i := ⟨_, rfl⟩
      rw [← hj] at HTXT HT HFY hjb HJL HJU
      have hw : IntKind.i64.wrap ((j : Int) + 1) = (j : Int) + 1 := by rw [IntKind.wrap_i64]; omega
      clear ha hc hj hsy
      simp only at hb
      obtain ⟨c0, c1, c2, c3⟩ := HT.out.px.c
      have hpl1 := Rg.lt_of_heap HT.out.px.at_
      have HPOS := Lib.hid HT.out.px.pos
      rcases hb with hb | ⟨hb, hb2⟩
      · skip
        go_upto_region 4 with (go_at_call 140; (with_reducible refine (HTXT.out _ HT.out.px).mono ?_); rintro e wr ⟨rfl, hx5⟩; have HT := Lib.hid (HT.out.ext hx5); clear hx5)
        clear c0 c1 c2 c3 hpl1
        obtain ⟨c0, c1, c2, c3⟩ := HT.out.px.c
        have f1 : wr.frozen? ⟨p, 1, none⟩ = false := put_frozen HT.out.px.at_
        have hpl1 := Rg.lt_of_heap HT.out.px.at_
        go_upto_region 5 with (fail)
        have HT5 : Hid (TX w (wr.setCell ⟨p, 1, none⟩ (.int .i64 ((j : Int) + 1))) p q tv l (j + 1) t _) := Lib.hid (HT.out.go (HT.out.px.step (j + 1)) ((KX.of_ext (Ext.refl _)).set _))
        generalize wr.setCell ⟨p, 1, none⟩ (.int .i64 ((j : Int) + 1)) = w5 at *
        clear c0 c1 c2 c3 f1 hpl1
        have hq5 := Rg.lt_of_heap HT5.out.at_
        have hk5 := HT5.out.kx.size
        go_upto_region 6 with (go_at_call 212; (with_reducible refine (HFY.out _ HT5.out.px).mono ?_); rintro e w6 ⟨vy, rfl, hr6, hp6, hx6⟩; obtain ⟨opy, y1, y2, nmy, by_, ly, cy, rfl⟩ := hr6.form; have HT6 := Lib.hid (HT5.out.go hp6 hx6); have HY6 : Hid (Rd (fun b => w.heap.size < b ∧ b ≠ q) w6 y _) := Lib.hid (Rd.frame (fun _ _ _ _ => rfl) (fun b hb => ⟨by omega, by omega⟩) _ _ hr6); clear hp6 hx6 hr6)
        obtain ⟨e0, e1, e2, e3, e4, g0, g1, g2, g3, g4⟩ := cells_five HT6.out.at_
        have hql := Rg.lt_of_heap HT6.out.at_
        go_wp2_with (fail)
        have HN := TX.make HT6.out HLT.out s (.cells #[.string opy, .int .i64 y1, .int .i64 y2, .string nmy, .slice by_ ly cy] 33) rfl HY6.out
        exact ⟨⟨i + 1, _, by omega, Lib.hid (by rw [HFS.out]; exact HN)⟩, by rw [HN.px.pos, HPOS.out]; have := HJU.out; have := HJL.out; have := HJM.out; omega⟩
      · skip
        go_upto_region 4 with (go_at_call 140; (with_reducible refine (HTXT.out _ HT.out.px).mono ?_); rintro e wr ⟨rfl, hx5⟩; have HT := Lib.hid (HT.out.ext hx5); clear hx5)
        clear c0 c1 c2 c3 hpl1
        obtain ⟨c0, c1, c2, c3⟩ := HT.out.px.c
        have f1 : wr.frozen? ⟨p, 1, none⟩ = false := put_frozen HT.out.px.at_
        have hpl1 := Rg.lt_of_heap HT.out.px.at_
        go_upto_region 5 with (fail)
        have HT5 : Hid (TX w (wr.setCell ⟨p, 1, none⟩ (.int .i64 ((j : Int) + 1))) p q tv l (j + 1) t _) := Lib.hid (HT.out.go (HT.out.px.step (j + 1)) ((KX.of_ext (Ext.refl _)).set _))
        generalize wr.setCell ⟨p, 1, none⟩ (.int .i64 ((j : Int) + 1)) = w5 at *
        clear c0 c1 c2 c3 f1 hpl1
        have hq5 := Rg.lt_of_heap HT5.out.at_
        have hk5 := HT5.out.kx.size
        go_upto_region 6 with (go_at_call 212; (with_reducible refine (HFY.out _ HT5.out.px).mono ?_); rintro e w6 ⟨vy, rfl, hr6, hp6, hx6⟩; obtain ⟨opy, y1, y2, nmy, by_, ly, cy, rfl⟩ := hr6.form; have HT6 := Lib.hid (HT5.out.go hp6 hx6); have HY6 : Hid (Rd (fun b => w.heap.size < b ∧ b ≠ q) w6 y _) := Lib.hid (Rd.frame (fun _ _ _ _ => rfl) (fun b hb => ⟨by omega, by omega⟩) _ _ hr6); clear hp6 hx6 hr6)
        obtain ⟨e0, e1, e2, e3, e4, g0, g1, g2, g3, g4⟩ := cells_five HT6.out.at_
        have hql := Rg.lt_of_heap HT6.out.at_
        go_wp2_with (fail)
        have HN := TX.make HT6.out HLT.out s (.cells #[.string opy, .int .i64 y1, .int .i64 y2, .string nmy, .slice by_ ly cy] 33) rfl HY6.out
        exact ⟨⟨i + 1, _, by omega, Lib.hid (by rw [HFS.out]; exact HN)⟩, by rw [HN.px.pos, HPOS.out]; have := HJU.out; have := HJL.out; have := HJM.out; omega⟩
    · obtain rfl : i = ps.length := by omega
      rw [List.take_length] at HT
      have HTXT := Lib.hid (HTX.out (pos ps.length) (HPO.out _ (Nat.le_refl _)))
      rw [HZ.out] at HTXT
      obtain ⟨t, ht⟩ : ∃ t, t = foldT t0 ps := ⟨_, rfl⟩
      rw [← ht] at HT
      have HTT := Lib.hid ht
      clear ht
      obtain ⟨opx, x1, x2, nmx, bx, lx, cx, hcs⟩ := HT.out.rd.form
      injection hcs with hcs
      subst hcs
      obtain ⟨j, hj⟩ : ∃ j, j = pos ps.length := ⟨_, rfl⟩
      rw [← hj] at HTXT HT
      have HJ := Lib.hid hj
      clear hj
      obtain ⟨c0, c1, c2, c3⟩ := HT.out.px.c
      have hpl1 := Rg.lt_of_heap HT.out.px.at_
      go_upto_region 7 with (go_at_call 140; (with_reducible refine (HTXT.out _ HT.out.px).mono ?_); rintro e wr ⟨rfl, hx5⟩; have HT := Lib.hid (HT.out.ext hx5); clear hx5)
      obtain ⟨e0, e1, e2, e3, e4, g0, g1, g2, g3, g4⟩ := cells_five HT.out.at_
      obtain ⟨r0, r1, r2, r3, r4, s0, s1, s2, s3, s4⟩ := cells_five HT.out.res
      have hql := Rg.lt_of_heap HT.out.at_
      have hrl := Rg.lt_of_heap HT.out.res
      go_wp2_with (fail)
      exact bodyPost_ret (v := .agg #[.string opx, .int .i64 x1, .int .i64 x2, .string nmx, .slice bx lx cx]) (results_cell_row Tryz.results206 _ _ w.heap.size 33 _ _ _ (by rfl) (put5_at HT.out.res _ _ _ _ _) Tryz.underlying33 rfl (by kernel_rfl)) rfl ⟨_, rfl, by rw [← HTT.out]; exact put5_rd (S := fun b => w.heap.size < b ∧ b ≠ q) HT.out.rd (fun b hb => Nat.ne_of_gt hb.1) (fun b hb => hb.1), by rw [← HJ.out]; exact put5_px HT.out.px (show p ≠ w.heap.size by omega) (fun b n c e => by have := HLT.out b n c e; omega) _ _ _ _ _, put5_kx HT.out.kx (Nat.le_refl _) _ _ _ _ _⟩
end Go.Proofs.YteomcpplajeidaaGreat
namespace Go.Proofs.YteomcpplajeidaaGreat
set_option linter.unusedVariables false
set_option linter.unusedSimpArgs false
set_option maxRecDepth 100000
open Go.RowKit
theorem Ex.parts_get : ∀ (ts : List Ex) (k : Nat) (h : k < ts.length), Ex.partsL (ts.take (k + 1)) = Ex.partsL (ts.take k) + ts[k].parts ∧ ts[k].parts ≤ Ex.partsL ts ∧ Ex.partsL (ts.take k) ≤ Ex.partsL ts
  | t :: ts, 0, _ => by
    simp only [List.take_zero, List.take_succ_cons, Ex.partsL, List.getElem_cons_zero]; omega
  | t :: ts, k + 1, h => by
    have ih := Ex.parts_get ts k (by simpa using h)
    simp only [List.take_succ_cons, Ex.partsL, List.getElem_cons_succ] at ih ⊢
    omega
theorem Ex.depth_take : ∀ (ts : List Ex) (k : Nat) (h : k < ts.length), Ex.depthL (ts.take (k + 1)) = max (Ex.depthL (ts.take k)) ts[k].depth
  | t :: ts, 0, _ => by
    simp only [List.take_zero, List.take_succ_cons, Ex.depthL, List.getElem_cons_zero]; omega
  | t :: ts, k + 1, h => by
    have ih := Ex.depth_take ts k (by simpa using h)
    simp only [List.take_succ_cons, Ex.depthL, List.getElem_cons_succ] at ih ⊢
    omega
mutual
theorem Ex.depth_le : ∀ t : Ex, t.depth ≤ t.parts
  | .mk _ _ _ ts => by rw [Ex.depth, Ex.parts]; have := Ex.depthL_le ts; omega
theorem Ex.depthL_le : ∀ ts : List Ex, Ex.depthL ts ≤ Ex.partsL ts
  | [] => by rw [Ex.depthL]; exact Nat.zero_le _
  | t :: ts => by rw [Ex.depthL, Ex.partsL]; have := Ex.depth_le t; have := Ex.depthL_le ts; omega
end
end Go.Proofs.YteomcpplajeidaaGreat
namespace Go.Proofs.YteomcpplajeidaaGreat
set_option linter.unusedVariables false
set_option linter.unusedSimpArgs false
set_option maxRecDepth 100000
open Go.RowKit
set_option maxRecDepth 100000 in
set_option maxHeartbeats 2000000 in
theorem pparts_any : ∀ (d : Nat) (t : Ex) (_ : t.depth ≤ d) (_ : t.parts ≤ 100000) (w : World) (v : Value) (_ : Rd All w t v),
    Calls Tryz.prog 148 #[v] w fun e w' => e = .returned (.int .i64 (t.parts : Nat)) ∧ Ext w w'
  | 0, .mk op n nm ts, hd, _, _, _, _ => by rw [Ex.depth] at hd; omega
  | d + 1, .mk op n nm ts, hd, hp, w, v, hv => by
    obtain ⟨n1, n2⟩ := n
    unfold Rd at hv
    obtain ⟨base, cap, rfl, -, hlen, hr⟩ := hv
    have IH := Lib.hid (fun t ht hp w v hv => pparts_any d t ht hp w v hv)
    rw [Ex.depth] at hd
    rw [Ex.parts] at hp
    have hdp := Ex.depthL_le ts
    rw [Ex.parts]
    have HR := Lib.hid hr
    have hn0 : (0 : Int) ≤ (ts.length : Int) := by omega
    have hn2 : (ts.length : Int) ≤ 9223372036854775807 := by omega
    clear hr
    obtain ⟨W, hW⟩ : ∃ W, W = (w.alloc (.cells #[.string op, .int .i64 n1, .int .i64 n2, .string nm, .slice base ts.length cap] 33)) := ⟨_, rfl⟩
    have hxW : Ext w W := by rw [hW]; exact Ext.alloc (Ext.refl _) _
    have hw1 : W.heap[w.heap.size]? = some (.cells #[.string op, .int .i64 n1, .int .i64 n2, .string nm, .slice base ts.length cap] 33) := by rw [hW]; exact block_new rfl
    go_enter Tryz.func148, Tryz.ntmps148
    go_wp2_with (fail)
    rw [← hW]
    clear hW
    have s1 : w.heap.size < W.heap.size := Rg.lt_of_heap hw1
    have e4 : W.cell? ⟨w.heap.size, 4, none⟩ = some (.slice base ts.length cap) := by rw [cell_of_row W _ _ _ _ _ hw1]; rfl
    clear hw1
    obtain ⟨p, hpe⟩ : ∃ p, p = w.heap.size := ⟨_, rfl⟩
    rw [← hpe] at s1 e4 ⊢
    clear hpe
    go_loopw [3, 4] (fun z i wr => ∃ k : Nat, k ≤ ts.length ∧ z = .int .i64 ((1 + Ex.partsL (ts.take k)) : Nat) ∧ i = .int .i64 k ∧ Ext W wr) (fun _ i _ => ts.length - (intOf i).toNat)
    case atStart => exact ⟨0, Nat.zero_le _, by rfl, rfl, Ext.refl _⟩
    case round =>
      obtain ⟨k, hk, rfl, rfl, hx⟩ := hrel
      have x4 := (hx.cells.1 _ _ s1).trans e4
      have t1 : p < wr.heap.size := Nat.lt_of_lt_of_le s1 hx.size
      have kw : IntKind.i64.wrap ((k : Int) + 1) = (k : Int) + 1 := by rw [IntKind.wrap_i64]; omega
      rcases Nat.lt_or_ge k ts.length with hlt | hge
      · rcases HR.out with h | ⟨b, rfl, -, hl⟩
        · subst h; exact absurd hlt (Nat.not_lt_zero _)
        obtain ⟨c, hc, hra⟩ := hl.get k hlt
        obtain ⟨oa, a1, a2, na, ba, la, ca, c0, c1, c2, c3, c4, ea⟩ := hra.shape
        rw [Nat.zero_add] at hc
        have hbl : b < w.heap.size := World.block_lt_of_cell? w _ (hc 0 (by decide))
        have hwr : Ext w wr := hxW.trans hx
        have s5 : b < wr.heap.size := Nat.lt_of_lt_of_le hbl hwr.size
        have j0 := (hwr.cells.1 b _ hbl).trans ((hc 0 (by decide)).trans (congrArg some c0))
        have j1 := (hwr.cells.1 b _ hbl).trans ((hc 1 (by decide)).trans (congrArg some c1))
        have j2 := (hwr.cells.1 b _ hbl).trans ((hc 2 (by decide)).trans (congrArg some c2))
        have j3 := (hwr.cells.1 b _ hbl).trans ((hc 3 (by decide)).trans (congrArg some c3))
        have j4 := (hwr.cells.1 b _ hbl).trans ((hc 4 (by decide)).trans (congrArg some c4))
        simp only [Nat.add_zero] at j0
        have hdk : ts[k].depth ≤ d := by have := Ex.depth_get ts k hlt; omega
        obtain ⟨q1, q2, q3⟩ := Ex.parts_get ts k hlt
        have q4 := Ex.depth_take ts k hlt
        have q5 := Ex.depth_le ts[k]
        have q6 := Ex.depthL_le (ts.take k)
        have HI := Lib.hid (fun w' hw => IH.out ts[k] hdk (by omega) w' _ (Rd.ext hw (ea ▸ hra)))
        have hlt' : (k : Int) < (ts.length : Int) := by omega
        have hk0 : (0 : Int) ≤ (k : Int) := by omega
        have kw2 : IntKind.i64.wrap (1 + (Ex.partsL (ts.take k) : Int) + (ts[k].parts : Int)) = 1 + (Ex.partsL (ts.take k) : Int) + (ts[k].parts : Int) := by rw [IntKind.wrap_i64]; omega
        have HQ := Lib.hid (show _ ∧ _ from ⟨q1, q4⟩)
        clear hc hra hl c0 c1 c2 c3 c4 ea hdk q1 q2 q3 q4 q5 q6 hdp hp hd hlen
        go_wp2_with (go_at_call 148; (with_reducible refine (HI.out _ ?_).mono ?_); (exact hwr); rintro e w3 ⟨rfl, hx3⟩; have x4' := (hx3.cells.1 _ _ t1).trans x4; have t1' := Nat.lt_of_lt_of_le t1 hx3.size)
        go_roundw
        case rel => exact ⟨k + 1, by omega, by (rw [HQ.out.1]; congr 1; omega), by go_num, (by with_reducible repeat (first | exact Ext.refl _ | assumption | apply Ext.drewN | apply Ext.drew | apply Ext.alloc | (refine Ext.setCell ?_ (by simp <;> omega) _) | (refine Ext.trans ?_ (by assumption))))⟩
        case measure => simp [intOf]; omega
      · have hkn : k = ts.length := by omega
        subst hkn
        rw [List.take_length]
        skip
        go_wp2
        go_ret
        exact ⟨by rfl, hxW.trans hx⟩
set_option maxRecDepth 100000 in
set_option maxHeartbeats 2000000 in
theorem pdepth_any : ∀ (d : Nat) (t : Ex) (_ : t.depth ≤ d) (_ : t.parts ≤ 100000) (w : World) (v : Value) (_ : Rd All w t v),
    Calls Tryz.prog 149 #[v] w fun e w' => e = .returned (.int .i64 (t.depth : Nat)) ∧ Ext w w'
  | 0, .mk op n nm ts, hd, _, _, _, _ => by rw [Ex.depth] at hd; omega
  | d + 1, .mk op n nm ts, hd, hp, w, v, hv => by
    obtain ⟨n1, n2⟩ := n
    unfold Rd at hv
    obtain ⟨base, cap, rfl, -, hlen, hr⟩ := hv
    have IH := Lib.hid (fun t ht hp w v hv => pdepth_any d t ht hp w v hv)
    rw [Ex.depth] at hd
    rw [Ex.parts] at hp
    have hdp := Ex.depthL_le ts
    rw [Ex.depth]
    have HR := Lib.hid hr
    have hn0 : (0 : Int) ≤ (ts.length : Int) := by omega
    have hn2 : (ts.length : Int) ≤ 9223372036854775807 := by omega
    clear hr
    obtain ⟨W, hW⟩ : ∃ W, W = (w.alloc (.cells #[.string op, .int .i64 n1, .int .i64 n2, .string nm, .slice base ts.length cap] 33)) := ⟨_, rfl⟩
    have hxW : Ext w W := by rw [hW]; exact Ext.alloc (Ext.refl _) _
    have hw1 : W.heap[w.heap.size]? = some (.cells #[.string op, .int .i64 n1, .int .i64 n2, .string nm, .slice base ts.length cap] 33) := by rw [hW]; exact block_new rfl
    go_enter Tryz.func149, Tryz.ntmps149
    go_wp2_with (fail)
    rw [← hW]
    clear hW
    have s1 : w.heap.size < W.heap.size := Rg.lt_of_heap hw1
    have e4 : W.cell? ⟨w.heap.size, 4, none⟩ = some (.slice base ts.length cap) := by rw [cell_of_row W _ _ _ _ _ hw1]; rfl
    clear hw1
    obtain ⟨p, hpe⟩ : ∃ p, p = w.heap.size := ⟨_, rfl⟩
    rw [← hpe] at s1 e4 ⊢
    clear hpe
    go_loopw [3, 4] (fun z i wr => ∃ k : Nat, k ≤ ts.length ∧ z = .int .i64 ((Ex.depthL (ts.take k)) : Nat) ∧ i = .int .i64 k ∧ Ext W wr) (fun _ i _ => ts.length - (intOf i).toNat)
    case atStart => exact ⟨0, Nat.zero_le _, by rfl, rfl, Ext.refl _⟩
    case round =>
      obtain ⟨k, hk, rfl, rfl, hx⟩ := hrel
      have x4 := (hx.cells.1 _ _ s1).trans e4
      have t1 : p < wr.heap.size := Nat.lt_of_lt_of_le s1 hx.size
      have kw : IntKind.i64.wrap ((k : Int) + 1) = (k : Int) + 1 := by rw [IntKind.wrap_i64]; omega
      rcases Nat.lt_or_ge k ts.length with hlt | hge
      · rcases HR.out with h | ⟨b, rfl, -, hl⟩
        · subst h; exact absurd hlt (Nat.not_lt_zero _)
        obtain ⟨c, hc, hra⟩ := hl.get k hlt
        obtain ⟨oa, a1, a2, na, ba, la, ca, c0, c1, c2, c3, c4, ea⟩ := hra.shape
        rw [Nat.zero_add] at hc
        have hbl : b < w.heap.size := World.block_lt_of_cell? w _ (hc 0 (by decide))
        have hwr : Ext w wr := hxW.trans hx
        have s5 : b < wr.heap.size := Nat.lt_of_lt_of_le hbl hwr.size
        have j0 := (hwr.cells.1 b _ hbl).trans ((hc 0 (by decide)).trans (congrArg some c0))
        have j1 := (hwr.cells.1 b _ hbl).trans ((hc 1 (by decide)).trans (congrArg some c1))
        have j2 := (hwr.cells.1 b _ hbl).trans ((hc 2 (by decide)).trans (congrArg some c2))
        have j3 := (hwr.cells.1 b _ hbl).trans ((hc 3 (by decide)).trans (congrArg some c3))
        have j4 := (hwr.cells.1 b _ hbl).trans ((hc 4 (by decide)).trans (congrArg some c4))
        simp only [Nat.add_zero] at j0
        have hdk : ts[k].depth ≤ d := by have := Ex.depth_get ts k hlt; omega
        obtain ⟨q1, q2, q3⟩ := Ex.parts_get ts k hlt
        have q4 := Ex.depth_take ts k hlt
        have q5 := Ex.depth_le ts[k]
        have q6 := Ex.depthL_le (ts.take k)
        have HI := Lib.hid (fun w' hw => IH.out ts[k] hdk (by omega) w' _ (Rd.ext hw (ea ▸ hra)))
        have hlt' : (k : Int) < (ts.length : Int) := by omega
        have hk0 : (0 : Int) ≤ (k : Int) := by omega
        skip
        have HQ := Lib.hid (show _ ∧ _ from ⟨q1, q4⟩)
        clear hc hra hl c0 c1 c2 c3 c4 ea hdk q1 q2 q3 q4 q5 q6 hdp hp hd hlen
        go_wp2_with (go_at_call 149; (with_reducible refine (HI.out _ ?_).mono ?_); (exact hwr); rintro e w3 ⟨rfl, hx3⟩; have x4' := (hx3.cells.1 _ _ t1).trans x4; have t1' := Nat.lt_of_lt_of_le t1 hx3.size)
        go_roundw
        case rel => exact ⟨k + 1, by omega, by (rw [HQ.out.2]; congr 1; omega), by go_num, (by with_reducible repeat (first | exact Ext.refl _ | assumption | apply Ext.drewN | apply Ext.drew | apply Ext.alloc | (refine Ext.setCell ?_ (by simp <;> omega) _) | (refine Ext.trans ?_ (by assumption))))⟩
        case measure => simp [intOf]; omega
      · have hkn : k = ts.length := by omega
        subst hkn
        rw [List.take_length]
        have kw3 : IntKind.i64.wrap ((Ex.depthL ts : Nat) + 1) = ((Ex.depthL ts : Nat) : Int) + 1 := by rw [IntKind.wrap_i64]; omega
        go_wp2
        go_ret
        exact ⟨by rw [show ((1 + Ex.depthL ts : Nat) : Int) = (Ex.depthL ts : Int) + 1 by omega]; rfl, hxW.trans hx⟩
end Go.Proofs.YteomcpplajeidaaGreat
