/-
  Lemmas of this claim (JtY). Nothing is asked.
-/
import Derived.Test.YteomcpplajeidaaGreatJtV
import Derived.Test.YteomcpplajeidaaGreatJtX
import Derived.Test.YteomcpplajeidaaGreatJtN
namespace Go.Proofs.YteomcpplajeidaaGreat
set_option linter.unusedVariables false
set_option linter.unusedSimpArgs false
set_option maxRecDepth 100000
open Go.RowKit
theorem one_str (x : ByteArray) : (strC x).length = 1 ∧ ∀ c ∈ strC x, c.oneCell' = true := ⟨rfl, by intro c hc; simp [strC] at hc; rw [hc]; rfl⟩
set_option maxHeartbeats 8000000 in
theorem ties_any (p : Nat) (tv : Value) (l : List (ByteArray × Int)) (S : ByteArray) (r : TnR) (sv : Value) (w : World) (h : PX 166 w p tv l 1 (restOf S r sv)) (hl : 2 < l.length) (s : ByteArray) (hs : l[1].1 = s) (hsz : s.size ≤ 1000000) (hsd : worS s = true) (hz0 : l[2].1 = ⟨#[]⟩) (hr : r.ts = (none, 0, 0)) :
    Calls Tryz.prog 183 #[.pointer (some ⟨p, 0, none⟩)] w fun e w' => e = .returned (.tuple #[]) ∧ ∃ g cap, w.heap.size ≤ g ∧ PX 166 w' p tv l 2 (restOf S { r with ts := (some ⟨g, 0, none⟩, 1, cap) } sv) ∧ KX p w w' ∧ w'.ownsRow w.heap.size 9 1 (.slice (some ⟨g, 0, none⟩) 1 cap) 1 ([s].flatMap strC) := by
  have HW0 : Hid (∀ wz rest (hz : PX 166 wz p tv l 2 rest), Calls Tryz.prog 140 #[.pointer (some ⟨p, 0, none⟩)] wz fun e w' => e = .returned (.string ⟨#[]⟩) ∧ Ext wz w') := Lib.hid (fun wz rest hz => by have := text_any p tv l 2 wz hz.c.1 hz.c.2.1 hz.tok (by omega); rw [hz0] at this; exact this)
  have HT := Lib.hid (fun wz rest (hz : PX 166 wz p tv l 1 rest) => text_any p tv l 1 wz hz.c.1 hz.c.2.1 hz.tok (by omega))
  rw [hs] at HT
  have HN := Lib.hid (fun wz => IsWord_any s hsz wz)
  rw [hsd] at HN
  have hnp : (s.toList == [112, 114, 105, 99, 101]) = false := by
    unfold worS at hsd
    simp only [Bool.and_eq_true, Bool.not_eq_true'] at hsd
    exact hsd.1.1.1.2
  have HP := Lib.hid h
  have HR := Lib.hid hr
  have hpl := Rg.lt_of_heap h.at_
  clear h hs hsd hz0 hr
  go_enter Tryz.func183, Tryz.ntmps183
  go_upto_region 0 with (fail)
  go_loopw [2, 3, 4] (fun _ _ _ wr => w = wr ∨ ∃ g cap, Hid (w.heap.size ≤ g ∧ PX 166 wr p tv l 2 (restOf S { r with ts := (some ⟨g, 0, none⟩, 1, cap) } sv) ∧ KX p w wr ∧ wr.ownsRow w.heap.size 9 1 (.slice (some ⟨g, 0, none⟩) 1 cap) 1 ([s].flatMap strC))) (fun _ _ _ wr => 5 - posOf wr p)
  case atStart => exact .inl rfl
  case round =>
    rcases hrel with rfl | ⟨g, cap, HQ⟩
    · have HPOS := Lib.hid HP.out.pos
      obtain ⟨c0, c1, c2, c3⟩ := HP.out.c
      have r1 : w.cell? ⟨p, 16, none⟩ = some (.slice none 0 0) := (HP.out.r 12).trans (by show some (slV r.ts) = _; rw [HR.out])
      go_upto_region 2 with (go_at_call 140; (with_reducible refine (HT.out _ _ HP.out).mono ?_); rintro e w1 ⟨rfl, hx1⟩; have HP1 := Lib.hid (HP.out.ext hx1); have HX1 := Lib.hid (KX.of_ext (bn := p) hx1); have HXE := Lib.hid hx1; clear hx1)
      clear c0 c1 c2 c3 r1
      obtain ⟨c0, c1, c2, c3⟩ := HP1.out.c
      have r1 : w1.cell? ⟨p, 16, none⟩ = some (.slice none 0 0) := (HP1.out.r 12).trans (by show some (slV r.ts) = _; rw [HR.out])
      have hp1 := Rg.lt_of_heap HP1.out.at_
      go_upto_region 6 with (go_at_call 150; (with_reducible refine (HN.out _).mono ?_); rintro e w2 ⟨rfl, rfl⟩)
      go_loopw [4] (fun kv wq => kv = .int .i64 0 ∧ w1 = wq) (fun kv _ => 0)
      case atStart => exact ⟨rfl, rfl⟩
      case round =>
        obtain ⟨rfl, rfl⟩ := hrel
        have hxa : Ext w1 (w1.alloc (.cells #[.string s] 9)) := Ext.alloc (Ext.refl _) _
        have hat : (w1.alloc (.cells #[.string s] 9)).heap[w1.heap.size]? = some (.cells #[.string s] 9) := block_new rfl
        have hsz1 : w1.heap.size ≤ (w1.alloc (.cells #[.string s] 9)).heap.size := hxa.size
        have HXA := Lib.hid hxa
        clear hxa
        go_upto_region 13 with (at_builtin; (refine append_one (cs := strC) (z := .string ⟨#[]⟩) one_str 34 9 16 Tryz.underlying34 (by kernel_rfl) (by rfl) (by decide) (by decide) rfl (.tmp 83) (.tmp 85) rfl w1.heap.size (.slice none 0 0) [] (by rfl) ⟨rfl, .inl ⟨rfl, rfl⟩⟩ w1.heap.size s (by rfl) hat (by simp) hsz1 ?_; intro g7 cap7 w7 hr7 hb7; have HX7 : Hid (Ext w1 w7) := Lib.hid (RowKit.Below.trans HXA.out hb7); have HP7 := Lib.hid (HP1.out.ext HX7.out); have HR7 := Lib.hid hr7; clear hr7 hb7 hat r1 hp1; have r1 := (HP7.out.r 12).trans (by show some (slV r.ts) = _; rw [HR.out]); have hp1 := Rg.lt_of_heap HP7.out.at_; have f1 : w7.frozen? ⟨p, 16, none⟩ = false := put_frozen HP7.out.at_))
        have hown := own_away (p := p) (o := 16) (u := .slice (some ⟨g7, 0, none⟩) 1 cap7) HR7.out (Rg.lt_of_heap HP1.out.at_) w.heap.size (HX1.out.size)
        have HP8 : Hid (PX 166 (w7.setCell ⟨p, 16, none⟩ (.slice (some ⟨g7, 0, none⟩) 1 cap7)) p tv l 1 (restOf S { r with ts := (some ⟨g7, 0, none⟩, 1, cap7) } sv)) := Lib.hid (HP7.out.put 12 _)
        have HX8 := Lib.hid ((HX1.out.ext HX7.out).set (j := 16) (.slice (some ⟨g7, 0, none⟩) 1 cap7))
        have HO8 := Lib.hid hown
        clear hown r1 f1 hp1
        generalize w7.setCell ⟨p, 16, none⟩ (.slice (some ⟨g7, 0, none⟩) 1 cap7) = w8 at *
        obtain ⟨c0, c1, c2, c3⟩ := HP8.out.c
        have f1 : w8.frozen? ⟨p, 1, none⟩ = false := put_frozen HP8.out.at_
        have hp1 := Rg.lt_of_heap HP8.out.at_
        go_wp2_with (fail)
        have HP9 := HP8.out.step 2
        have HO9 := own_away (p := p) (o := 1) (u := .int .i64 2) HO8.out.2 (Rg.lt_of_heap HP.out.at_) w.heap.size (Nat.le_refl _)
        exact ⟨.inr ⟨g7, cap7, Lib.hid ⟨Nat.le_trans HX1.out.size HO8.out.1, HP9, HX8.out.set _, HO9.2⟩⟩, by rw [HPOS.out, show posOf (w8.setCell ⟨p, 1, none⟩ (.int .i64 2)) p = 2 from HP9.pos]; decide⟩
    · have HP2 := Lib.hid HQ.out.2.1
      obtain ⟨c0, c1, c2, c3⟩ := HP2.out.c
      have r1 : wr.cell? ⟨p, 16, none⟩ = some (.slice (some ⟨g, 0, none⟩) 1 cap) := HP2.out.r 12
      have hp1 := Rg.lt_of_heap HP2.out.at_
      go_wp2_with (go_at_call 140; (with_reducible refine (HW0.out _ _ HP2.out).mono ?_); rintro e w4 ⟨rfl, hx4⟩; have HX4 := Lib.hid hx4; clear hx4)
      go_end0
      exact ⟨rfl, g, cap, HQ.out.1, HP2.out.ext HX4.out, HQ.out.2.2.1.ext HX4.out, row_ext HQ.out.2.2.2 HX4.out⟩
theorem line_tie (p : Nat) (tv : Value) (l : List (ByteArray × Int)) (S : ByteArray) (r : TnR) (sv : Value) (ed : Int) (w : World) (h : PX 166 w p tv l 1 (restOf S r sv)) (hl : 2 < l.length) (s : ByteArray) (hs : l[1].1 = s) (hsz : s.size ≤ 1000000) (hsd : worS s = true) (hz0 : l[2].1 = ⟨#[]⟩) (hr : r.ts = (none, 0, 0)) :
    Calls Tryz.prog 144 #[.pointer (some ⟨p, 0, none⟩), .string ⟨#[116, 105, 101]⟩, .int .i64 ed] w fun e w' => e = .returned (.tuple #[]) ∧ ∃ g cap, w.heap.size ≤ g ∧ PX 166 w' p tv l 2 (restOf S { r with ts := (some ⟨g, 0, none⟩, 1, cap) } sv) ∧ KX p w w' ∧ w'.ownsRow w.heap.size 9 1 (.slice (some ⟨g, 0, none⟩) 1 cap) 1 ([s].flatMap strC) := by
  have HW0 : Hid (∀ wz rest (hz : PX 166 wz p tv l 2 rest), Calls Tryz.prog 140 #[.pointer (some ⟨p, 0, none⟩)] wz fun e w' => e = .returned (.string ⟨#[]⟩) ∧ Ext wz w') := Lib.hid (fun wz rest hz => by have := text_any p tv l 2 wz hz.c.1 hz.c.2.1 hz.tok (by omega); rw [hz0] at this; exact this)
  have HL := Lib.hid (ties_any p tv l S r sv w h hl s hs hsz hsd hz0 hr)
  have HP := Lib.hid h
  have hpl := Rg.lt_of_heap h.at_
  obtain ⟨c0, c1, c2, c3⟩ := HP.out.c
  clear h hz0 hs hsz hsd hr
  go_enter Tryz.func144, Tryz.ntmps144
  go_upto_region 39 with (go_at_call 183; (with_reducible refine HL.out.mono ?_); rintro e w2 ⟨rfl, g, cap, hg, hp2, hx2, ho2⟩; have HP2 := Lib.hid hp2; have HX2 := Lib.hid hx2; have HO2 := Lib.hid ho2; have HG := Lib.hid hg; clear hp2 hx2 ho2 hg)
  clear c0 c1 c2 c3
  obtain ⟨c0, c1, c2, c3⟩ := HP2.out.c
  have hp2 := Rg.lt_of_heap HP2.out.at_
  go_wp2_with (go_at_call 140; (with_reducible refine (HW0.out _ _ HP2.out).mono ?_); rintro e w4 ⟨rfl, hx4⟩; have HX4 := Lib.hid hx4; clear hx4)
  go_end0
  exact ⟨rfl, g, cap, HG.out, HP2.out.ext HX4.out, HX2.out.ext HX4.out, row_ext HO2.out HX4.out⟩
end Go.Proofs.YteomcpplajeidaaGreat
namespace Go.Proofs.YteomcpplajeidaaGreat
set_option linter.unusedVariables false
set_option linter.unusedSimpArgs false
set_option maxRecDepth 100000
open Go.RowKit
def TermAt (p : Nat) (tv : Value) (l : List (ByteArray × Int)) (k k' : Nat) (t : Ex) : Prop :=
  ∀ wz : World, PX 164 wz p tv l k [] → Calls Tryz.prog 212 #[.pointer (some ⟨p, 0, none⟩)] wz fun e w' => ∃ v, e = .returned v ∧ Rd (fun b => wz.heap.size < b) w' t v ∧ PX 164 w' p tv l k' [] ∧ KX p wz w'
set_option maxHeartbeats 8000000 in
theorem formula_any (p : Nat) (tv : Value) (l : List (ByteArray × Int)) (k : Nat) (pos : Nat → Nat) (w : World) (h : PX 164 w p tv l k []) (t0 : Ex) (ps : List (ByteArray × Ex)) (hpos : ∀ i, i ≤ ps.length → pos i < l.length) (hup : ∀ i, i < ps.length → pos i < pos (i + 1)) (hl0 : 0 < l.length) (h0 : TermAt p tv l k (pos 0) t0)
    (hps : ∀ i (hi : i < ps.length), (l[pos i]'(hpos i (Nat.le_of_lt hi))).1 = ps[i].1 ∧ ((ps[i].1.toList == [43]) = true ∨ (ps[i].1.toList == [43]) = false ∧ (ps[i].1.toList == [45]) = true) ∧ TermAt p tv l (pos i + 1) (pos (i + 1)) ps[i].2) (z : ByteArray) (hz : (l[pos ps.length]'(hpos _ (Nat.le_refl _))).1 = z) (hz1 : (z.toList == [43]) = false) (hz2 : (z.toList == [45]) = false) (hkb : ∀ i, i ≤ ps.length → pos i ≤ 100000) :
    Calls Tryz.prog 206 #[.pointer (some ⟨p, 0, none⟩)] w fun e w' => ∃ v, e = .returned v ∧ Rd (fun b => w.heap.size < b) w' (foldT t0 ps) v ∧ PX 164 w' p tv l (pos ps.length) [] ∧ KX p w w' := by
  have HF0 := Lib.hid (fun (wz : World) (hz : PX 164 wz p tv l k []) => h0 wz hz)
  have HTX := Lib.hid (fun j (hj : j < l.length) wz (hz : PX 164 wz p tv l j []) => text_any p tv l j wz hz.c.1 hz.c.2.1 hz.tok hj)
  have HPS := Lib.hid hps
  have HPO := Lib.hid hpos
  have HUP := Lib.hid hup
  have HKB := Lib.hid hkb
  have HP := Lib.hid h
  have HLT := Lib.hid (h.lt (by omega))
  have hpl := Rg.lt_of_heap h.at_
  have HZ := Lib.hid hz
  clear h h0 hps hz hkb hup hl0
  go_enter Tryz.func206, Tryz.ntmps206
  go_upto_region 2 with (go_at_call 212; (with_reducible refine (HF0.out _ (HP.out.ext (by with_reducible repeat (first | exact Ext.refl _ | assumption | apply Ext.drewN | apply Ext.drew | apply Ext.alloc | (refine Ext.setCell ?_ (by simp <;> omega) _) | (refine Ext.trans ?_ (by assumption)))))).mono ?_); rintro e w1 ⟨v1, rfl, hr1, hp1, hx1⟩; obtain ⟨op0, m1, m2, nm0, b0, n0, c0, rfl⟩ := hr1.form; have HX1 : Hid (KX p w w1) := Lib.hid ((KX.of_ext (by with_reducible repeat (first | exact Ext.refl _ | assumption | apply Ext.drewN | apply Ext.drew | apply Ext.alloc | (refine Ext.setCell ?_ (by simp <;> omega) _) | (refine Ext.trans ?_ (by assumption))))).trans hx1); have HD1 := Lib.hid hr1; have HR1 : Hid (w1.heap[w.heap.size]? = some (.cells zero5 33)) := Lib.hid (hx1.at (block_new rfl) (show w.heap.size ≠ p by omega)); have HP1 := Lib.hid hp1; have hsz1 : w.heap.size < w1.heap.size := Nat.lt_of_lt_of_le (by simp) hx1.size; clear hx1 hp1 hr1)
  have hTX : TX w (w1.alloc (.cells #[.string op0, .int .i64 m1, .int .i64 m2, .string nm0, .slice b0 n0 c0] 33)) p w1.heap.size tv l (pos 0) (foldT t0 (ps.take 0)) #[.string op0, .int .i64 m1, .int .i64 m2, .string nm0, .slice b0 n0 c0] :=
    ⟨HP1.out.ext (by with_reducible repeat (first | exact Ext.refl _ | assumption | apply Ext.drewN | apply Ext.drew | apply Ext.alloc | (refine Ext.setCell ?_ (by simp <;> omega) _) | (refine Ext.trans ?_ (by assumption)))), HX1.out.ext (by with_reducible repeat (first | exact Ext.refl _ | assumption | apply Ext.drewN | apply Ext.drew | apply Ext.alloc | (refine Ext.setCell ?_ (by simp <;> omega) _) | (refine Ext.trans ?_ (by assumption)))), block_new rfl, (Rd.frame (fun _ _ _ _ => rfl) (fun b hb => ⟨by have := hb.1; rw [World.size_alloc] at this; omega, by omega⟩) _ _ (Rd.alive _ _ HD1.out)).ext (by with_reducible repeat (first | exact Ext.refl _ | assumption | apply Ext.drewN | apply Ext.drew | apply Ext.alloc | (refine Ext.setCell ?_ (by simp <;> omega) _) | (refine Ext.trans ?_ (by assumption)))), ((Ext.alloc (Ext.refl w1) _).block _ (Rg.lt_of_heap HR1.out)).trans HR1.out, hsz1, hpl⟩
  have HTX0 := Lib.hid hTX
  clear hTX
  obtain ⟨q, hq⟩ : ∃ q, q = w1.heap.size := ⟨_, rfl⟩
  rw [← hq] at HTX0 ⊢
  clear hq
  generalize w1.alloc (.cells #[.string op0, .int .i64 m1, .int .i64 m2, .string nm0, .slice b0 n0 c0] 33) = w2 at *
  clear HX1 HR1 HP1 HD1 hsz1
  go_loopw [4] (fun _ wr => ∃ i cs, i ≤ ps.length ∧ Hid (TX w wr p q tv l (pos i) (foldT t0 (ps.take i)) cs)) (fun _ wr => l.length - posOf wr p)
  case atStart => exact ⟨0, _, Nat.zero_le _, HTX0⟩
  case round =>
    rename World => wr
    obtain ⟨i, cs, hi, HT⟩ := hrel
    by_cases hil : i < ps.length
    · obtain ⟨ha, hb, hc⟩ := HPS.out i hil
      have HTXT := Lib.hid (HTX.out (pos i) (HPO.out i hi))
      rw [ha] at HTXT
      have HFS := Lib.hid (foldT_succ t0 ps i hil)
      have HFY := Lib.hid (fun (wz : World) (hz : PX 164 wz p tv l (pos i + 1) []) => hc wz hz)
      obtain ⟨sy, hsy⟩ : ∃ sy, sy = ps[i] := ⟨_, rfl⟩
      rw [← hsy] at HTXT HFS HFY hb
      obtain ⟨s, y⟩ := sy
      generalize foldT t0 (ps.take i) = t at *
      obtain ⟨opx, x1, x2, nmx, bx, lx, cx, hcs⟩ := HT.out.rd.form
      injection hcs with hcs
      subst hcs
      have hjb := HKB.out i hi
      have HJL := Lib.hid (HPO.out i hi)
      have HJU := Lib.hid (HUP.out i hil)
      have HJM := Lib.hid (HPO.out (i + 1) hil)
      obtain ⟨j, hj⟩ : ∃ j, j = pos i := ⟨_, rfl⟩
      rw [← hj] at HTXT HT HFY hjb HJL HJU
      have hw : IntKind.i64.wrap ((j : Int) + 1) = (j : Int) + 1 := by rw [IntKind.wrap_i64]; omega
      clear ha hc hj hsy
      simp only at hb
      obtain ⟨c0, c1, c2, c3⟩ := HT.out.px.c
      have hpl1 := Rg.lt_of_heap HT.out.px.at_
      have HPOS := Lib.hid HT.out.px.pos
      rcases hb with hb | ⟨hb, hb2⟩
      · skip
        go_upto_region 4 with (go_at_call 140; (with_reducible refine (HTXT.out _ HT.out.px).mono ?_); rintro e wr ⟨rfl, hx5⟩; have HT := Lib.hid (HT.out.ext hx5); clear hx5)
        clear c0 c1 c2 c3 hpl1
        obtain ⟨c0, c1, c2, c3⟩ := HT.out.px.c
        have f1 : wr.frozen? ⟨p, 1, none⟩ = false := put_frozen HT.out.px.at_
        have hpl1 := Rg.lt_of_heap HT.out.px.at_
        go_upto_region 5 with (fail)
        have HT5 : Hid (TX w (wr.setCell ⟨p, 1, none⟩ (.int .i64 ((j : Int) + 1))) p q tv l (j + 1) t _) := Lib.hid (HT.out.go (HT.out.px.step (j + 1)) ((KX.of_ext (Ext.refl _)).set _))
        generalize wr.setCell ⟨p, 1, none⟩ (.int .i64 ((j : Int) + 1)) = w5 at *
        clear c0 c1 c2 c3 f1 hpl1
        have hq5 := Rg.lt_of_heap HT5.out.at_
        have hk5 := HT5.out.kx.size
        go_upto_region 6 with (go_at_call 212; (with_reducible refine (HFY.out _ HT5.out.px).mono ?_); rintro e w6 ⟨vy, rfl, hr6, hp6, hx6⟩; obtain ⟨opy, y1, y2, nmy, by_, ly, cy, rfl⟩ := hr6.form; have HT6 := Lib.hid (HT5.out.go hp6 hx6); have HY6 : Hid (Rd (fun b => w.heap.size < b ∧ b ≠ q) w6 y _) := Lib.hid (Rd.frame (fun _ _ _ _ => rfl) (fun b hb => ⟨by omega, by omega⟩) _ _ hr6); clear hp6 hx6 hr6)
        obtain ⟨e0, e1, e2, e3, e4, g0, g1, g2, g3, g4⟩ := cells_five HT6.out.at_
        have hql := Rg.lt_of_heap HT6.out.at_
        go_wp2_with (fail)
        have HN := TX.make HT6.out HLT.out s (.cells #[.string opy, .int .i64 y1, .int .i64 y2, .string nmy, .slice by_ ly cy] 33) rfl HY6.out
        exact ⟨⟨i + 1, _, by omega, Lib.hid (by rw [HFS.out]; exact HN)⟩, by rw [HN.px.pos, HPOS.out]; have := HJU.out; have := HJL.out; have := HJM.out; omega⟩
      · skip
        go_upto_region 4 with (go_at_call 140; (with_reducible refine (HTXT.out _ HT.out.px).mono ?_); rintro e wr ⟨rfl, hx5⟩; have HT := Lib.hid (HT.out.ext hx5); clear hx5)
        clear c0 c1 c2 c3 hpl1
        obtain ⟨c0, c1, c2, c3⟩ := HT.out.px.c
        have f1 : wr.frozen? ⟨p, 1, none⟩ = false := put_frozen HT.out.px.at_
        have hpl1 := Rg.lt_of_heap HT.out.px.at_
        go_upto_region 5 with (fail)
        have HT5 : Hid (TX w (wr.setCell ⟨p, 1, none⟩ (.int .i64 ((j : Int) + 1))) p q tv l (j + 1) t _) := Lib.hid (HT.out.go (HT.out.px.step (j + 1)) ((KX.of_ext (Ext.refl _)).set _))
        generalize wr.setCell ⟨p, 1, none⟩ (.int .i64 ((j : Int) + 1)) = w5 at *
        clear c0 c1 c2 c3 f1 hpl1
        have hq5 := Rg.lt_of_heap HT5.out.at_
        have hk5 := HT5.out.kx.size
        go_upto_region 6 with (go_at_call 212; (with_reducible refine (HFY.out _ HT5.out.px).mono ?_); rintro e w6 ⟨vy, rfl, hr6, hp6, hx6⟩; obtain ⟨opy, y1, y2, nmy, by_, ly, cy, rfl⟩ := hr6.form; have HT6 := Lib.hid (HT5.out.go hp6 hx6); have HY6 : Hid (Rd (fun b => w.heap.size < b ∧ b ≠ q) w6 y _) := Lib.hid (Rd.frame (fun _ _ _ _ => rfl) (fun b hb => ⟨by omega, by omega⟩) _ _ hr6); clear hp6 hx6 hr6)
        obtain ⟨e0, e1, e2, e3, e4, g0, g1, g2, g3, g4⟩ := cells_five HT6.out.at_
        have hql := Rg.lt_of_heap HT6.out.at_
        go_wp2_with (fail)
        have HN := TX.make HT6.out HLT.out s (.cells #[.string opy, .int .i64 y1, .int .i64 y2, .string nmy, .slice by_ ly cy] 33) rfl HY6.out
        exact ⟨⟨i + 1, _, by omega, Lib.hid (by rw [HFS.out]; exact HN)⟩, by rw [HN.px.pos, HPOS.out]; have := HJU.out; have := HJL.out; have := HJM.out; omega⟩
    · obtain rfl : i = ps.length := by omega
      rw [List.take_length] at HT
      have HTXT := Lib.hid (HTX.out (pos ps.length) (HPO.out _ (Nat.le_refl _)))
      rw [HZ.out] at HTXT
      obtain ⟨t, ht⟩ : ∃ t, t = foldT t0 ps := ⟨_, rfl⟩
      rw [← ht] at HT
      have HTT := Lib.hid ht
      clear ht
      obtain ⟨opx, x1, x2, nmx, bx, lx, cx, hcs⟩ := HT.out.rd.form
      injection hcs with hcs
      subst hcs
      obtain ⟨j, hj⟩ : ∃ j, j = pos ps.length := ⟨_, rfl⟩
      rw [← hj] at HTXT HT
      have HJ := Lib.hid hj
      clear hj
      obtain ⟨c0, c1, c2, c3⟩ := HT.out.px.c
      have hpl1 := Rg.lt_of_heap HT.out.px.at_
      go_upto_region 7 with (go_at_call 140; (with_reducible refine (HTXT.out _ HT.out.px).mono ?_); rintro e wr ⟨rfl, hx5⟩; have HT := Lib.hid (HT.out.ext hx5); clear hx5)
      obtain ⟨e0, e1, e2, e3, e4, g0, g1, g2, g3, g4⟩ := cells_five HT.out.at_
      obtain ⟨r0, r1, r2, r3, r4, s0, s1, s2, s3, s4⟩ := cells_five HT.out.res
      have hql := Rg.lt_of_heap HT.out.at_
      have hrl := Rg.lt_of_heap HT.out.res
      go_wp2_with (fail)
      exact bodyPost_ret (v := .agg #[.string opx, .int .i64 x1, .int .i64 x2, .string nmx, .slice bx lx cx]) (results_cell_row Tryz.results206 _ _ w.heap.size 33 _ _ _ (by rfl) (put5_at HT.out.res _ _ _ _ _) Tryz.underlying33 rfl (by kernel_rfl)) rfl ⟨_, rfl, by rw [← HTT.out]; exact put5_rd (S := fun b => w.heap.size < b ∧ b ≠ q) HT.out.rd (fun b hb => Nat.ne_of_gt hb.1) (fun b hb => hb.1), by rw [← HJ.out]; exact put5_px HT.out.px (show p ≠ w.heap.size by omega) (fun b n c e => by have := HLT.out b n c e; omega) _ _ _ _ _, put5_kx HT.out.kx (Nat.le_refl _) _ _ _ _ _⟩
end Go.Proofs.YteomcpplajeidaaGreat
namespace Go.Proofs.YteomcpplajeidaaGreat
set_option linter.unusedVariables false
set_option linter.unusedSimpArgs false
set_option maxRecDepth 100000
open Go.RowKit
theorem Ex.parts_get : ∀ (ts : List Ex) (k : Nat) (h : k < ts.length), Ex.partsL (ts.take (k + 1)) = Ex.partsL (ts.take k) + ts[k].parts ∧ ts[k].parts ≤ Ex.partsL ts ∧ Ex.partsL (ts.take k) ≤ Ex.partsL ts
  | t :: ts, 0, _ => by
    simp only [List.take_zero, List.take_succ_cons, Ex.partsL, List.getElem_cons_zero]; omega
  | t :: ts, k + 1, h => by
    have ih := Ex.parts_get ts k (by simpa using h)
    simp only [List.take_succ_cons, Ex.partsL, List.getElem_cons_succ] at ih ⊢
    omega
theorem Ex.depth_take : ∀ (ts : List Ex) (k : Nat) (h : k < ts.length), Ex.depthL (ts.take (k + 1)) = max (Ex.depthL (ts.take k)) ts[k].depth
  | t :: ts, 0, _ => by
    simp only [List.take_zero, List.take_succ_cons, Ex.depthL, List.getElem_cons_zero]; omega
  | t :: ts, k + 1, h => by
    have ih := Ex.depth_take ts k (by simpa using h)
    simp only [List.take_succ_cons, Ex.depthL, List.getElem_cons_succ] at ih ⊢
    omega
mutual
theorem Ex.depth_le : ∀ t : Ex, t.depth ≤ t.parts
  | .mk _ _ _ ts => by rw [Ex.depth, Ex.parts]; have := Ex.depthL_le ts; omega
theorem Ex.depthL_le : ∀ ts : List Ex, Ex.depthL ts ≤ Ex.partsL ts
  | [] => by rw [Ex.depthL]; exact Nat.zero_le _
  | t :: ts => by rw [Ex.depthL, Ex.partsL]; have := Ex.depth_le t; have := Ex.depthL_le ts; omega
end
end Go.Proofs.YteomcpplajeidaaGreat
