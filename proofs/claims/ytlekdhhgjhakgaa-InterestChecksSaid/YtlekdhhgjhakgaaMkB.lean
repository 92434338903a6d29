/-
  Made: a setup out of numbers. Conditions: the numbers lie in memory.
-/
import Derived.Test.YtlekdhhgjhakgaaMkA
import Derived.Test.YtlekdhhgjhakgaaIyH
import Derived.Test.YtlekdhhgjhakgaaRsP
namespace Go.Proofs.Ytlekdhhgjhakgaa
set_option linter.unusedVariables false
set_option linter.unusedSimpArgs false
open Go.RowKit
/-- All that lies stays but for one block. -/
def KX (bn : Nat) (w w' : World) : Prop := w.grownBy w' (some bn)
theorem KX.of_ext {bn : Nat} {w w' : World} (h : Ext w w') : KX bn w w' := ⟨h.os, h.tape, h.output, h.size, fun k hk _ => h.block k hk⟩
theorem KX.trans {bn : Nat} {w w' w'' : World} (h : KX bn w w') (k : KX bn w' w'') : KX bn w w'' :=
  ⟨k.os.trans h.os, k.tape.trans h.tape, k.output.trans h.output, Nat.le_trans h.size k.size, fun i hi hn => (k.block i (Nat.lt_of_lt_of_le hi h.size) hn).trans (h.block i hi hn)⟩
theorem KX.ext {bn : Nat} {w w' w'' : World} (h : KX bn w w') (k : Ext w' w'') : KX bn w w'' := h.trans (KX.of_ext k)
theorem KX.low {W w w' : World} {bn : Nat} (h : Ext W w) (hb : W.heap.size ≤ bn) (k : KX bn w w') : Ext W w' := grown_low h hb k
/-- A block of another type stays. -/
theorem KX.cells {bn b : Nat} {w w' : World} (k : KX bn w w') {cs ds : Array Value} {t u : TypeId} (h : w.heap[bn]? = some (.cells cs t)) (hb : w.heap[b]? = some (.cells ds u)) (hne : u ≠ t) : w'.heap[b]? = some (.cells ds u) :=
  (k.block b (Rg.lt_of_heap hb) fun e => cells_ne hb h hne (by injection e)).trans hb
theorem KX.row {bn B E sz n : Nat} {w w' : World} {v : Value} {xs : List Value} (k : KX bn w w') {cs : Array Value} {t : TypeId} (h : w.heap[bn]? = some (.cells cs t)) (hr : w.ownsRow B E sz v n xs) (hne : E ≠ t) : w'.ownsRow B E sz v n xs :=
  row_keepK hr fun g hg => by
    obtain ⟨ds, hd⟩ := row_block hr hg
    rw [hd]
    exact k.cells h hd hne
theorem BS.kx {w0 w w' : World} {D bn : Nat} {c0 c1 c2 c3 c4 c5 : Value} {s : Su} {cs : Array Value} (h : BS w0 D w c0 c1 c2 c3 c4 c5 s) (hb : w.heap[bn]? = some (.cells cs 63)) (hn : w0.heap.size ≤ bn) (k : KX bn w w') : BS w0 D w' c0 c1 c2 c3 c4 c5 s :=
  ⟨KX.low h.low hn k, k.cells hb h.at_ (by decide), ⟨k.row hb h.os.ps (by decide), k.row hb h.os.hs (by decide), k.row hb h.os.rs (by decide), h.os.q, h.os.se, h.os.lb, h.os.ok⟩, h.ge⟩
/-- The bounds of a setup made. -/
structure MS (s : Su) (a b c : Nat) : Prop where
  np : s.ps.length ≤ a
  nh : s.hs.length ≤ b
  nr : s.rs.length ≤ c
  ps : ∀ p ∈ s.ps, 1 ≤ p.id ∧ p.id ≤ 20 ∧ 1 ≤ p.role ∧ p.role ≤ 4
  hs : ∀ h ∈ s.hs, 1 ≤ h.per ∧ h.per ≤ 9 ∧ 11 ≤ h.bid ∧ h.bid ≤ 15 ∧ -1 ≤ h.pct ∧ h.pct ≤ 7
  rs : ∀ r ∈ s.rs, 1 ≤ r.1 ∧ r.1 ≤ 9 ∧ 1 ≤ r.2 ∧ r.2 ≤ 13
theorem MS.pushP {ps : List Pe} {hs : List Ho} {rs : List (Int × Int)} {a b c : Nat} (h : MS ⟨ps, hs, rs⟩ a b c) (p : Pe) (hp : 1 ≤ p.id ∧ p.id ≤ 20 ∧ 1 ≤ p.role ∧ p.role ≤ 4) : MS ⟨ps ++ [p], hs, rs⟩ (a + 1) b c :=
  ⟨by simpa using h.np, h.nh, h.nr, fun q hq => by
    rcases List.mem_append.1 hq with hq | hq
    · exact h.ps q hq
    · rw [List.mem_singleton] at hq
      subst hq
      exact hp, h.hs, h.rs⟩
theorem BS.pushPs {w0 W W' : World} {D : Nat} {c0 c1 c2 c3 c4 c5 : Value} {s : Su} (h : BS w0 D W c0 c1 c2 c3 c4 c5 s) {v : Value} {p : List Pe} (hg : W.grownBy W' c0.ownBlock) (hr : W'.ownsRow w0.heap.size 50 3 v (s.ps ++ p).length ((s.ps ++ p).flatMap Pe.cs)) (hok : (⟨s.ps ++ p, s.hs, s.rs⟩ : Su).ok) :
    BS w0 D (W'.setCell ⟨D, 0, none⟩ v) v c1 c2 c3 c4 c5 ⟨s.ps ++ p, s.hs, s.rs⟩ := by
  have hD := row_other h.os.ps (by decide) hg h.at_
  exact ⟨Ext.setCell (row_grown h.low h.os.ps (Nat.le_refl _) hg) h.ge _, (heap_setCell_row _ hD).trans rfl, ⟨own_cell hr hD (by decide) _, keep2 (V := W) h.os.ps hg h.at_ (by decide) (by decide) (by decide) h.os.hs, keep2 (V := W) h.os.ps hg h.at_ (by decide) (by decide) (by decide) h.os.rs, h.os.q, h.os.se, h.os.lb, hok⟩, h.ge⟩
theorem MS.pushR {ps : List Pe} {hs : List Ho} {rs : List (Int × Int)} {a b c : Nat} (h : MS ⟨ps, hs, rs⟩ a b c) (r : Int × Int) (hr : 1 ≤ r.1 ∧ r.1 ≤ 9 ∧ 1 ≤ r.2 ∧ r.2 ≤ 13) : MS ⟨ps, hs, rs ++ [r]⟩ a b (c + 1) :=
  ⟨h.np, h.nh, by simpa using h.nr, h.ps, h.hs, fun q hq => by
    rcases List.mem_append.1 hq with hq | hq
    · exact h.rs q hq
    · rw [List.mem_singleton] at hq
      subst hq
      exact hr⟩
theorem MS.pushH {ps : List Pe} {hs : List Ho} {rs : List (Int × Int)} {a b c : Nat} (h : MS ⟨ps, hs, rs⟩ a b c) (x : Ho) (hx : 1 ≤ x.per ∧ x.per ≤ 9 ∧ 11 ≤ x.bid ∧ x.bid ≤ 15 ∧ -1 ≤ x.pct ∧ x.pct ≤ 7) : MS ⟨ps, hs ++ [x], rs⟩ a (b + 1) c :=
  ⟨h.np, by simpa using h.nh, h.nr, h.ps, fun q hq => by
    rcases List.mem_append.1 hq with hq | hq
    · exact h.hs q hq
    · rw [List.mem_singleton] at hq
      subst hq
      exact hx, h.rs⟩
theorem MS.up {s : Su} {a b c a' b' c' : Nat} (h : MS s a b c) (ha : a ≤ a') (hb : b ≤ b') (hc : c ≤ c') : MS s a' b' c' := ⟨Nat.le_trans h.np ha, Nat.le_trans h.nh hb, Nat.le_trans h.nr hc, h.ps, h.hs, h.rs⟩
theorem MS.ok {s : Su} {a b c : Nat} (h : MS s a b c) (ha : a ≤ 1000) (hb : b ≤ 1000) (hc : c ≤ 1000) (hp : ∀ p ∈ s.ps, p.pub = 0) : s.ok :=
  ⟨fun p hp' => by
    obtain ⟨h1, h2, h3, h4⟩ := h.ps p hp'
    exact ⟨okI_small ⟨by omega, by omega⟩, okI_small ⟨by omega, by omega⟩, by rw [hp p hp']; exact okI_small (by decide)⟩, fun x hx => by
    obtain ⟨h1, h2, h3, h4, h5, h6⟩ := h.hs x hx
    exact ⟨okI_small ⟨by omega, by omega⟩, okI_small ⟨by omega, by omega⟩, okI_small ⟨by omega, by omega⟩⟩, fun r hr => by
    obtain ⟨h1, h2, h3, h4⟩ := h.rs r hr
    exact ⟨okI_small ⟨by omega, by omega⟩, okI_small ⟨by omega, by omega⟩⟩, Nat.le_trans h.np ha, Nat.le_trans h.nh hb, Nat.le_trans h.nr hc⟩
def rolF (k : Nat) : Int := if k = 3 then 2 else 3
theorem rolF_bd (k : Nat) : 1 ≤ rolF k ∧ rolF k ≤ 4 := by unfold rolF; split <;> omega
theorem roles_at (k : Nat) (h : (k : Int) < 4) (w : World) (blk : Nat) (hb : w.heap[blk]? = some (.cells #[.int .i64 3, .int .i64 3, .int .i64 3, .int .i64 2] 3)) : w.cell? ⟨blk, k, none⟩ = some (.int .i64 (rolF k)) := by
  have key : w.cell? ⟨blk, k, none⟩ = #[Value.int .i64 3, .int .i64 3, .int .i64 3, .int .i64 2][k]? := by
    have := cell_of_row w blk k _ _ _ hb
    simpa using this
  obtain rfl | rfl | rfl | rfl : k = 0 ∨ k = 1 ∨ k = 2 ∨ k = 3 := by omega
  all_goals exact key
def relN (k : Nat) : Int := [1, 2, 3, 4, 5, 7, 8, 9, 11, 12, 13].getD k 1
theorem relN_bd (k : Nat) : 1 ≤ relN k ∧ relN k ≤ 13 := by
  unfold relN
  rw [List.getD_eq_getElem?_getD]
  rcases Nat.lt_or_ge k 11 with h | h
  · obtain rfl | rfl | rfl | rfl | rfl | rfl | rfl | rfl | rfl | rfl | rfl : k = 0 ∨ k = 1 ∨ k = 2 ∨ k = 3 ∨ k = 4 ∨ k = 5 ∨ k = 6 ∨ k = 7 ∨ k = 8 ∨ k = 9 ∨ k = 10 := by omega
    all_goals decide
  · rw [List.getElem?_eq_none (by simpa using h)]
    decide
theorem rels_at (k : Nat) (h : (k : Int) < 11) (w : World) (blk : Nat) (hb : w.heap[blk]? = some (.cells #[.int .i64 1, .int .i64 2, .int .i64 3, .int .i64 4, .int .i64 5, .int .i64 7, .int .i64 8, .int .i64 9, .int .i64 11, .int .i64 12, .int .i64 13] 3)) : w.cell? ⟨blk, k, none⟩ = some (.int .i64 (relN k)) := by
  have key : w.cell? ⟨blk, k, none⟩ = #[Value.int .i64 1, .int .i64 2, .int .i64 3, .int .i64 4, .int .i64 5, .int .i64 7, .int .i64 8, .int .i64 9, .int .i64 11, .int .i64 12, .int .i64 13][k]? := by
    have := cell_of_row w blk k _ _ _ hb
    simpa using this
  obtain rfl | rfl | rfl | rfl | rfl | rfl | rfl | rfl | rfl | rfl | rfl : k = 0 ∨ k = 1 ∨ k = 2 ∨ k = 3 ∨ k = 4 ∨ k = 5 ∨ k = 6 ∨ k = 7 ∨ k = 8 ∨ k = 9 ∨ k = 10 := by omega
  all_goals exact key
/-- Worlds that grow while numbers are taken. -/
@[instance_reducible] def gwN (W : World) (bn : Nat) (v : Value) (ns : List Int) (lim : Nat) : Rs.Gw where
  R w w' := KX bn w w' ∧ (lim ≤ w.heap.size ∧ bn < lim) ∧ (∃ pos, NX W w bn v ns pos) ∧ (∃ pos, NX W w' bn v ns pos)
  lim := lim
  refl h := ⟨KX.of_ext (Ext.refl _), ⟨Nat.le_trans h.2.1.1 h.1.size, h.2.1.2⟩, h.2.2.2, h.2.2.2⟩
  trans h k := ⟨h.1.trans k.1, h.2.1, h.2.2.1, k.2.2.2⟩
  ext h x := ⟨KX.of_ext x, h.2.1, h.2.2.1, h.2.2.1.imp fun _ hp => hp.ext x⟩
  size h := h.1.size
  lim_le h := h.2.1.1
  block h p hp hl := h.1.block p hl fun e => by
    injection e with e
    have := h.2.1.2
    omega
set_option maxRecDepth 100000 in
set_option maxHeartbeats 8000000 in
theorem Made_any (v : Value) (ns : List Int) (W : World) (h : IRd W v ns) :
    Calls Try.prog 12 #[v] W fun e w' => ∃ c0 c1 c2 c3 c4 c5 s, e = .returned (.agg #[c0, c1, c2, c3, c4, c5]) ∧ OS W.heap.size w' c0 c1 c2 c3 c4 c5 s ∧ Ext W w' ∧ MS s 8 7 5 := by
  obtain ⟨A, c, hv, hl, hok, hcl⟩ := id h
  subst hv
  have HI := Lib.hid h
  clear h hok hcl
  go_enter Try.func12, Try.ntmps12
  go_upto_region 1 with (fail)
  have hx0 : Ext W (W.alloc (.cells #[.slice none 0 0, .int .i64 0, .slice none 0 0, .slice none 0 0, .int .i64 0, .int .i64 0] 28)) := Ext.alloc (Ext.refl _) _
  have hb0 := alloc_at W (.cells #[.slice none 0 0, .int .i64 0, .slice none 0 0, .slice none 0 0, .int .i64 0, .int .i64 0] 28)
  obtain ⟨D0, hD0⟩ : ∃ D0, D0 = W.heap.size := ⟨_, rfl⟩
  rw [← hD0] at hb0 ⊢
  have HD0 := Lib.hid hD0
  clear hD0
  generalize W.alloc (.cells #[.slice none 0 0, .int .i64 0, .slice none 0 0, .slice none 0 0, .int .i64 0, .int .i64 0] 28) = W0 at *
  have hn0 : NX W (W0.alloc (.cells #[.slice A ns.length c, .int .i64 ((0 : Nat) : Int)] 63)) W0.heap.size (.slice A ns.length c) ns 0 := ⟨hx0.trans (Ext.alloc (Ext.refl _) _), alloc_at W0 _, hx0.size, HI.out, Nat.zero_le _⟩
  have hb0a := ((Ext.alloc (Ext.refl W0) (.cells #[.slice A ns.length c, .int .i64 ((0 : Nat) : Int)] 63)).block _ (Rg.lt_of_heap hb0)).trans hb0
  go_upto_region 2 with (fail)
  rw [show ((0 : Nat) : Int) = 0 from rfl] at hn0 hb0a
  obtain ⟨bn, hbn⟩ : ∃ bn, bn = W0.heap.size := ⟨_, rfl⟩
  rw [← hbn] at hn0 ⊢
  clear hbn
  have HN0 := Lib.hid hn0; have HB0 := Lib.hid hb0a
  clear hb0 hx0 hn0 hb0a
  generalize W0.alloc (.cells #[.slice A ns.length c, .int .i64 0] 63) = W1 at *
  have hz := BS.zero W1 (w0 := W) HN0.out.low
  have hxz := Ext.alloc (Ext.refl W1) (.cells #[.slice none 0 0, .int .i64 0, .slice none 0 0, .slice none 0 0, .int .i64 0, .int .i64 0] 28)
  have HN1 := Lib.hid (HN0.out.ext hxz)
  have HB1 := Lib.hid ((hxz.block _ (Rg.lt_of_heap HB0.out)).trans HB0.out)
  have HNE : Hid (D0 < W1.heap.size) := Lib.hid (Rg.lt_of_heap HB0.out)
  obtain ⟨D, hD⟩ : ∃ D, D = W1.heap.size := ⟨_, rfl⟩
  go_upto_region 3 with (fail)
  rw [← hD] at hz HNE ⊢
  have HZ := Lib.hid hz
  clear hD hz hxz HN0 HB0
  generalize W1.alloc (.cells #[.slice none 0 0, .int .i64 0, .slice none 0 0, .slice none 0 0, .int .i64 0, .int .i64 0] 28) = W2 at *
  go_upto_region 4 with (go_at_call 27; (with_reducible refine (next_any HN1.out 7 (by decide)).mono ?_); rintro e w3 ⟨k, pos, rfl, k7, hnx, hkx⟩)
  have HZ3 := Lib.hid (HZ.out.kx HN1.out.at_ HN1.out.ge hkx)
  have HB3 := Lib.hid (KX.cells hkx HN1.out.at_ HB1.out (by decide))
  have HN3 := Lib.hid hnx
  clear HZ HN1 HB1 hnx hkx
  go_upto_region 5 with (fail)
  go_loopw [6] (fun iv wr => ∃ (i : Nat) (pos : Nat) (ps : List Pe) (ov : Value), iv = .int .i64 i ∧ i ≤ k ∧ ps.length = i ∧ Hid (MS ⟨ps, [], []⟩ i 0 0) ∧ Hid (∀ p ∈ ps, p.pub = 0) ∧ Hid (BS W D wr ov (.int .i64 0) (.slice none 0 0) (.slice none 0 0) (.int .i64 0) (.int .i64 0) ⟨ps, [], []⟩) ∧ Hid (wr.heap[D0]? = some (.cells #[.slice none 0 0, .int .i64 0, .slice none 0 0, .slice none 0 0, .int .i64 0, .int .i64 0] 28)) ∧ Hid (NX W wr bn (.slice A ns.length c) ns pos)) (fun iv _ => k - (iof iv).toNat)
  case atStart => exact ⟨0, pos, [], _, rfl, by omega, rfl, Lib.hid ⟨by simp, by simp, by simp, fun p hp => (by cases hp), fun p hp => (by cases hp), fun p hp => (by cases hp)⟩, Lib.hid fun p hp => (by cases hp), HZ3, HB3, HN3⟩
  case round =>
    obtain ⟨i, pos, ps, ov, rfl, hik, hpl, HMS, HPB, HZ, HB, HN⟩ := hrel
    subst hpl
    clear HZ3 HB3 HN3
    obtain ⟨oA, oc, rfl⟩ := row_formG HZ.out.os.ps
    obtain ⟨c0, -⟩ := HZ.out.c
    by_cases hlt : ps.length < k
    · go_upto_region 7 with (fail)
      have HSS : Hid (∀ wz, KX bn wr wz → wz.cell? ⟨D, 0, none⟩ = some (.slice oA ps.length oc)) := Lib.hid fun wz hz => (HZ.out.kx HN.out.at_ HN.out.ge hz).c.1
      have lbn : bn < wr.heap.size := Rg.lt_of_heap HN.out.at_
      letI G : Rs.Gw := gwN W bn (.slice A ns.length c) ns wr.heap.size
      have hG : Rs.Gw.R wr wr := ⟨KX.of_ext (Ext.refl _), ⟨Nat.le_refl _, lbn⟩, ⟨_, HN.out⟩, ⟨_, HN.out⟩⟩
      refine Rq.wp_regionTE hG [] [(0, .y), (1, .y), (2, .y), (6, .y), (3, .z), (4, .y), (7, .z), (5, .m), (8, .y), (9, .y), (10, .y), (11, .z)] [12, 13, 14] (fun _ => (.cells #[.int .i64 3, .int .i64 3, .int .i64 3, .int .i64 2] 3, fun p => .slice (some ⟨p, 0, none⟩) 4 4)) (fun c a d v w h => by have h' : _ ∧ _ := h; exact ⟨(Rr.put_defers a d v).symm.trans h'.1, h'.2⟩) (by kernel_rfl) (by kernel_rfl) ?_
      (refine Rs.wr_y (by simp only [List.getElem?_toArray, List.getElem?_cons_succ, List.getElem?_cons_zero]; rfl) (by rfl) ?_
       apply Exists.intro
       refine ⟨fun wz hw hh => ?_, ?_⟩
       · have hc0 := HSS.out wz hw.1
         go_simp
         (with_reducible exact Rg.up_value)
       simp only [Act.put, List.setIfInBounds_toArray, List.set_cons_zero, List.set_cons_succ])
      (refine Rs.wr_y (by simp only [List.getElem?_toArray, List.getElem?_cons_succ, List.getElem?_cons_zero]; rfl) (by rfl) ?_
       apply Exists.intro
       refine ⟨fun wz hw hh => ?_, ?_⟩
       · have hc0 := HSS.out wz hw.1
         go_simp
         (with_reducible exact Rg.up_value)
       simp only [Act.put, List.setIfInBounds_toArray, List.set_cons_zero, List.set_cons_succ])
      (refine Rs.wr_y (by simp only [List.getElem?_toArray, List.getElem?_cons_succ, List.getElem?_cons_zero]; rfl) (by rfl) ?_
       apply Exists.intro
       refine ⟨fun wz hw hh => ?_, ?_⟩
       · have hc0 := HSS.out wz hw.1
         go_simp
         (with_reducible exact Rg.up_value)
       simp only [Act.put, List.setIfInBounds_toArray, List.set_cons_zero, List.set_cons_succ])
      (refine Rs.wr_y (by simp only [List.getElem?_toArray, List.getElem?_cons_succ, List.getElem?_cons_zero]; rfl) (by rfl) ?_
       apply Exists.intro
       refine ⟨fun wz hw hh => ?_, ?_⟩
       · have hc0 := HSS.out wz hw.1
         go_simp
         (with_reducible exact Rg.up_value)
       simp only [Act.put, List.setIfInBounds_toArray, List.set_cons_zero, List.set_cons_succ])
      (refine Rs.wr_z (fun v _ => ∃ k : Nat, v = .int .i64 (k : Int) ∧ (k : Int) < 6) (by simp only [List.getElem?_toArray, List.getElem?_cons_succ, List.getElem?_cons_zero]; rfl) (by rfl) (fun v w1 w2 h e => h) (fun wz hw hh => ?_) (fun u => ?_)
       · go_simp
         apply Rs.upR_enter
         obtain ⟨p, hp⟩ := hw.2.2.2
         refine (next_any hp 6 (by decide)).mono ?_
         rintro e wq ⟨k, p', rfl, hk, hn, hg⟩
         exact ⟨_, rfl, ⟨hg, ⟨Nat.le_trans hw.2.1.1 hw.1.size, hw.2.1.2⟩, ⟨p, hp⟩, ⟨p', hn⟩⟩, k, rfl, hk⟩
       simp only [Act.put, List.setIfInBounds_toArray, List.set_cons_zero, List.set_cons_succ])
      rename Value => u3
      (refine Rs.wr_y (by simp only [List.getElem?_toArray, List.getElem?_cons_succ, List.getElem?_cons_zero]; rfl) (by rfl) ⟨.int .i64 (1 + iof u3), fun wz hw hh => ?_, ?_⟩
       · obtain ⟨k3, hk3, hk3l⟩ := hh _ List.mem_cons_self
         subst hk3
         have hwr : IntKind.i64.wrap (1 + (k3 : Int)) = 1 + (k3 : Int) := by rw [IntKind.wrap_i64]; omega
         go_simp
         exact Rg.up_value
       simp only [Act.put, List.setIfInBounds_toArray, List.set_cons_zero, List.set_cons_succ])
      (refine Rs.wr_z (fun v _ => ∃ k : Nat, v = .int .i64 (k : Int) ∧ (k : Int) < 4) (by simp only [List.getElem?_toArray, List.getElem?_cons_succ, List.getElem?_cons_zero]; rfl) (by rfl) (fun v w1 w2 h e => h) (fun wz hw hh => ?_) (fun u => ?_)
       · go_simp
         apply Rs.upR_enter
         obtain ⟨p, hp⟩ := hw.2.2.2
         refine (next_any hp 4 (by decide)).mono ?_
         rintro e wq ⟨k, p', rfl, hk, hn, hg⟩
         exact ⟨_, rfl, ⟨hg, ⟨Nat.le_trans hw.2.1.1 hw.1.size, hw.2.1.2⟩, ⟨p, hp⟩, ⟨p', hn⟩⟩, k, rfl, hk⟩
       simp only [Act.put, List.setIfInBounds_toArray, List.set_cons_zero, List.set_cons_succ])
      rename Value => u7
      (refine Rs.wr_m (by simp only [List.getElem?_toArray, List.getElem?_cons_succ, List.getElem?_cons_zero]; rfl) (by rfl) (fun wz => by go_simp) (fun pR hpR => ?_)
       simp only [Act.put, List.setIfInBounds_toArray, List.set_cons_zero, List.set_cons_succ])
      (refine Rs.wr_y (by simp only [List.getElem?_toArray, List.getElem?_cons_succ, List.getElem?_cons_zero]; rfl) (by rfl) ⟨.pointer (some ⟨pR, (iof u7).toNat, none⟩), fun wz hw hh => ?_, ?_⟩
       · obtain ⟨k7', hk7, hk7l⟩ := hh _ (List.mem_cons_of_mem _ List.mem_cons_self)
         subst hk7
         go_simp
         exact Rg.up_value
       simp only [Act.put, List.setIfInBounds_toArray, List.set_cons_zero, List.set_cons_succ])
      (refine Rs.wr_y (by simp only [List.getElem?_toArray, List.getElem?_cons_succ, List.getElem?_cons_zero]; rfl) (by rfl) ⟨.int .i64 (rolF (iof u7).toNat), fun wz hw hh => ?_, ?_⟩
       · obtain ⟨k7', hk7, hk7l⟩ := hh _ (List.mem_cons_of_mem _ List.mem_cons_self)
         obtain ⟨-, -, hbl⟩ := hh _ List.mem_cons_self
         subst hk7
         have hrl := roles_at k7' hk7l wz pR hbl
         go_simp
         exact Rg.up_value
       simp only [Act.put, List.setIfInBounds_toArray, List.set_cons_zero, List.set_cons_succ])
      (refine Rs.wr_y (by simp only [List.getElem?_toArray, List.getElem?_cons_succ, List.getElem?_cons_zero]; rfl) (by rfl) ⟨.agg #[.int .i64 (1 + iof u3), .int .i64 (rolF (iof u7).toNat), .int .i64 0], fun wz hw hh => ?_, ?_⟩
       · go_simp
         exact Rg.up_value
       simp only [Act.put, List.setIfInBounds_toArray, List.set_cons_zero, List.set_cons_succ])
      (refine Rs.wr_z (fun v w => ∃ p, v = .slice (some ⟨p, 0, none⟩) 1 1 ∧ wr.heap.size ≤ p ∧ w.heap[p]? = some (.cells #[.int .i64 (1 + iof u3), .int .i64 (rolF (iof u7).toNat), .int .i64 0] 50)) (by simp only [List.getElem?_toArray, List.getElem?_cons_succ, List.getElem?_cons_zero]; rfl) (by rfl) (fun v w1 w2 ⟨p, h1, h2, h3⟩ e => ⟨p, h1, h2, (Rs.Gw.block e p h2 (Rg.lt_of_heap h3)).trans h3⟩) (fun wz hw hh => ?_) (fun u => ?_)
       · go_simp
         exact Rs.upR_value (Rs.Gw.alloc (Rs.Gw.refl hw) _) ⟨_, rfl, hw.1.size, alloc_at wz _⟩
       simp only [Act.put, List.setIfInBounds_toArray, List.set_cons_zero, List.set_cons_succ])
      rename Value => u11
      refine Rs.wr_nil ?_
      intro wy hy hh
      obtain ⟨pe, hpe, -, hpb⟩ := hh _ List.mem_cons_self
      obtain ⟨k7', hk7, hk7l⟩ := hh _ (List.mem_cons_of_mem _ (List.mem_cons_of_mem _ List.mem_cons_self))
      obtain ⟨k3, hk3, hk3l⟩ := hh _ (List.mem_cons_of_mem _ (List.mem_cons_of_mem _ (List.mem_cons_of_mem _ List.mem_cons_self)))
      subst hpe hk7 hk3
      clear hh
      simp only [List.filterMap_cons, List.filterMap_nil, List.getElem?_cons_succ, List.getElem?_cons_zero]
      have HZY := Lib.hid (HZ.out.kx HN.out.at_ HN.out.ge hy.1)
      have HBY := Lib.hid (KX.cells hy.1 HN.out.at_ HB.out (by decide))
      obtain ⟨pos2, hn2⟩ := hy.2.2.2
      have HNY := Lib.hid hn2
      have hrb := rolF_bd (iof (.int .i64 (k7' : Int))).toNat
      generalize rolF (iof (.int .i64 (k7' : Int))).toNat = r at *
      rw [show iof (.int .i64 (k3 : Int)) = (k3 : Int) from rfl] at *
      have HMS2 := Lib.hid (HMS.out.pushP ⟨1 + (k3 : Int), r, 0⟩ ⟨by simp only; omega, by simp only; omega, hrb⟩)
      have HPB2 : Hid (∀ p ∈ ps ++ [(⟨1 + (k3 : Int), r, 0⟩ : Pe)], p.pub = 0) := Lib.hid fun p hp => by
        rcases List.mem_append.1 hp with hp | hp
        · exact HPB.out p hp
        · rw [List.mem_singleton] at hp
          subst hp
          rfl
      have hel : ps.length < 1000000 := by omega
      have hsz : W.heap.size ≤ wy.heap.size := HZY.out.low.size
      clear hy hn2 HZ HN HB HMS HPB HSS hG G c0 lbn
      refine append_g (cs := Pe.cs) (z := .agg #[.int .i64 0, .int .i64 0, .int .i64 0]) 26 50 24 Try.underlying26 (by kernel_rfl) (by rfl) (by decide) (by decide) rfl (.tmp 22) (.tmp 32) rfl W.heap.size (.slice oA ps.length oc) ps (by rfl) HZY.out.os.ps pe ⟨1 + (k3 : Int), r, 0⟩ ⟨rfl, by simp [Pe.cs, Value.oneCell']⟩ (by rfl) hpb hel hsz ?_
      intro g7 cap7 w7 hr7 hg7 hat7
      have hp7 := row_other HZY.out.os.ps (by decide) hg7 HZY.out.at_
      have f7 : w7.frozen? ⟨D, 0, none⟩ = false := tab_frozen hp7
      have c7 := cell_of_row w7 D 0 _ _ _ hp7
      change w7.cell? _ = some (.slice oA ps.length oc) at c7
      have HZN := Lib.hid (HZY.out.pushP (p := ⟨1 + (k3 : Int), r, 0⟩) hg7 hr7 (HMS2.out.ok (by omega) (by omega) (by omega) HPB2.out))
      have HBN := Lib.hid ((heap_setCell_other (o := 0) (.slice (some ⟨g7, 0, none⟩) (ps.length + 1) cap7) (Nat.ne_of_lt HNE.out)).trans (row_other HZY.out.os.ps (by decide) hg7 HBY.out))
      have HNN : Hid (NX W (w7.setCell ⟨D, 0, none⟩ (.slice (some ⟨g7, 0, none⟩) (ps.length + 1) cap7)) bn (.slice A ns.length c) ns pos2) := Lib.hid ⟨HZN.out.low, (heap_setCell_other (o := 0) _ (cells_ne HNY.out.at_ HZY.out.at_ (by decide))).trans (row_other HZY.out.os.ps (by decide) hg7 HNY.out.at_), HNY.out.ge, HNY.out.ird, HNY.out.le⟩
      clear hr7 hg7 hat7 hp7 hpb
      simp only [Act.put, List.setIfInBounds_toArray, List.set_cons_zero, List.set_cons_succ]
      go_wp2_with (fail)
      exact ⟨⟨ps.length + 1, pos2, _, _, by simp, by omega, by simp, HMS2, HPB2, HZN, HBN, HNN⟩, by simp [iof]; omega⟩
    · have hk6 : ps.length ≤ 6 := by omega
      have hel : ps.length + [(⟨20, 1, 0⟩ : Pe), ⟨11, 4, 0⟩].length ≤ 1000000 := by simp; omega
      have hxa : Ext wr (wr.alloc (.cells #[.int .i64 20, .int .i64 1, .int .i64 0, .int .i64 11, .int .i64 4, .int .i64 0] 50)) := Ext.alloc (Ext.refl _) _
      have HZA := Lib.hid (HZ.out.ext hxa); have HNA := Lib.hid (HN.out.ext hxa)
      have HBA := Lib.hid ((hxa.block _ (Rg.lt_of_heap HB.out)).trans HB.out)
      have hsz : W.heap.size ≤ (wr.alloc (.cells #[.int .i64 20, .int .i64 1, .int .i64 0, .int .i64 11, .int .i64 4, .int .i64 0] 50)).heap.size := HZA.out.low.size
      have hsrc : [(⟨20, 1, 0⟩ : Pe), ⟨11, 4, 0⟩] = [] ∨ ∃ b off, some (⟨wr.heap.size, 0, none⟩ : Addr) = some ⟨b, off, none⟩ ∧ ∀ j u, ([(⟨20, 1, 0⟩ : Pe), ⟨11, 4, 0⟩].flatMap Pe.cs)[j]? = some u → (wr.alloc (.cells #[.int .i64 20, .int .i64 1, .int .i64 0, .int .i64 11, .int .i64 4, .int .i64 0] 50)).cell? ⟨b, off + j, none⟩ = some u := .inr ⟨_, _, rfl, fun j u hj => by
        rw [cell_of_row _ wr.heap.size (0 + j) _ _ _ (alloc_at wr _), Nat.zero_add, ← hj]
        simp [Pe.cs]⟩
      clear hxa
      go_upto_region 9 with (at_builtin; (refine append_rows (cs := Pe.cs) (z := .agg #[.int .i64 0, .int .i64 0, .int .i64 0]) 26 50 24 Try.underlying26 (by kernel_rfl) (by rfl) (by decide) (by decide) rfl (.tmp 36) (.tmp 39) rfl W.heap.size (.slice oA ps.length oc) ps (by rfl) HZA.out.os.ps (fun _ => ⟨rfl, by simp [Pe.cs, Value.oneCell']⟩) _ _ [⟨20, 1, 0⟩, ⟨11, 4, 0⟩] (by rfl) hsrc hel hsz ?_; intro v7 w7 hr7 hg7; obtain ⟨A7, n7, rfl⟩ := row_formG hr7; have HR7 := Lib.hid hr7; have HG7 := Lib.hid hg7; have hp7 := row_other HZA.out.os.ps (by decide) hg7 HZA.out.at_; have f7 : w7.frozen? ⟨D, 0, none⟩ = false := tab_frozen hp7; have c7 : w7.cell? ⟨D, 0, none⟩ = some (.slice oA ps.length oc) := cell_of_row w7 D 0 _ _ _ hp7; clear hr7 hg7 hp7))
      have HMS8 : Hid (MS ⟨ps ++ [⟨20, 1, 0⟩, ⟨11, 4, 0⟩], [], []⟩ (ps.length + 2) 0 0) := Lib.hid (by
        have h9 := (HMS.out.pushP ⟨20, 1, 0⟩ (by decide)).pushP ⟨11, 4, 0⟩ (by decide)
        rwa [List.append_assoc] at h9)
      have HPB8 : Hid (∀ p ∈ ps ++ [(⟨20, 1, 0⟩ : Pe), ⟨11, 4, 0⟩], p.pub = 0) := Lib.hid fun p hp => by
        rcases List.mem_append.1 hp with hp | hp
        · exact HPB.out p hp
        · simp only [List.mem_cons, List.not_mem_nil, or_false] at hp
          rcases hp with rfl | rfl <;> rfl
      have HZ9 := Lib.hid (HZA.out.pushPs (p := [⟨20, 1, 0⟩, ⟨11, 4, 0⟩]) HG7.out HR7.out (HMS8.out.ok (by omega) (by omega) (by omega) HPB8.out))
      have HB9 := Lib.hid ((heap_setCell_other (o := 0) (.slice A7 (ps ++ [(⟨20, 1, 0⟩ : Pe), ⟨11, 4, 0⟩]).length n7) (Nat.ne_of_lt HNE.out)).trans (row_other HZA.out.os.ps (by decide) HG7.out HBA.out))
      have HN9 : Hid (NX W (w7.setCell ⟨D, 0, none⟩ (.slice A7 (ps ++ [(⟨20, 1, 0⟩ : Pe), ⟨11, 4, 0⟩]).length n7)) bn (.slice A ns.length c) ns pos) := Lib.hid ⟨HZ9.out.low, (heap_setCell_other (o := 0) _ (cells_ne HNA.out.at_ HZA.out.at_ (by decide))).trans (row_other HZA.out.os.ps (by decide) HG7.out HNA.out.at_), HNA.out.ge, HNA.out.ird, HNA.out.le⟩
      have HMS9 := Lib.hid (HMS8.out.up (show ps.length + 2 ≤ 8 by omega) (Nat.le_refl 0) (Nat.le_refl 0))
      rw [show (ps ++ [(⟨20, 1, 0⟩ : Pe), ⟨11, 4, 0⟩]).length = ps.length + 2 by simp] at HZ9 HB9 HN9
      clear HR7 HG7 f7 c7 HZA HNA HBA hsrc hel hsz HMS8 HZ HN HB HMS HPB c0
      generalize ps ++ [(⟨20, 1, 0⟩ : Pe), ⟨11, 4, 0⟩] = qs at *
      obtain ⟨v0, hv0⟩ : ∃ v0, v0 = Value.slice A7 (ps.length + 2) n7 := ⟨_, rfl⟩
      rw [← hv0] at HZ9 HB9 HN9 ⊢
      clear hv0
      generalize w7.setCell ⟨D, 0, none⟩ v0 = w9 at *
      go_upto_region 10 with (go_at_call 27; (with_reducible refine (next_any HN9.out 6 (by decide)).mono ?_); rintro e w10 ⟨k2, pos2, rfl, k26, hnx, hkx⟩)
      have HZ10 := Lib.hid (HZ9.out.kx HN9.out.at_ HN9.out.ge hkx)
      have HB10 := Lib.hid (KX.cells hkx HN9.out.at_ HB9.out (by decide))
      have HN10 := Lib.hid hnx
      clear HZ9 HN9 HB9 hnx hkx
      go_upto_region 11 with (fail)
      clear hik hlt hk6
      go_loopw [8] (fun iv wr => ∃ (i : Nat) (pos : Nat) (rs : List (Int × Int)) (ov : Value), iv = .int .i64 i ∧ i ≤ k2 ∧ rs.length = i ∧ Hid (MS ⟨qs, [], rs⟩ 8 0 i) ∧ Hid (BS W D wr v0 (.int .i64 0) (.slice none 0 0) ov (.int .i64 0) (.int .i64 0) ⟨qs, [], rs⟩) ∧ Hid (wr.heap[D0]? = some (.cells #[.slice none 0 0, .int .i64 0, .slice none 0 0, .slice none 0 0, .int .i64 0, .int .i64 0] 28)) ∧ Hid (NX W wr bn (.slice A ns.length c) ns pos)) (fun iv _ => k2 - (iof iv).toNat)
      case atStart => exact ⟨0, pos2, [], _, rfl, by omega, rfl, HMS9, HZ10, HB10, HN10⟩
      case round =>
        rename World => wr
        obtain ⟨i, pos, rs, ov, rfl, hik, hpl, HMS, HZ, HB, HN⟩ := hrel
        subst hpl
        clear HZ10 HB10 HN10 HMS9
        obtain ⟨oA, oc, rfl⟩ := row_formG HZ.out.os.rs
        obtain ⟨-, -, -, c3, -⟩ := HZ.out.c
        by_cases hlt : rs.length < k2
        · go_upto_region 13 with (fail)
          have HSS : Hid (∀ wz, KX bn wr wz → wz.cell? ⟨D, 3, none⟩ = some (.slice oA rs.length oc)) := Lib.hid fun wz hz => (HZ.out.kx HN.out.at_ HN.out.ge hz).c.2.2.2.1
          have lbn : bn < wr.heap.size := Rg.lt_of_heap HN.out.at_
          letI G : Rs.Gw := gwN W bn (.slice A ns.length c) ns wr.heap.size
          have hG : Rs.Gw.R wr wr := ⟨KX.of_ext (Ext.refl _), ⟨Nat.le_refl _, lbn⟩, ⟨_, HN.out⟩, ⟨_, HN.out⟩⟩
          refine Rq.wp_regionTE hG [] [(0, .y), (1, .y), (2, .y), (6, .y), (3, .z), (4, .y), (7, .z), (5, .m), (8, .y), (9, .y), (10, .y), (11, .z)] [12, 13, 14] (fun _ => (.cells #[.int .i64 1, .int .i64 2, .int .i64 3, .int .i64 4, .int .i64 5, .int .i64 7, .int .i64 8, .int .i64 9, .int .i64 11, .int .i64 12, .int .i64 13] 3, fun p => .slice (some ⟨p, 0, none⟩) 11 11)) (fun c a d v w h => by have h' : _ ∧ _ := h; exact ⟨(Rr.put_defers a d v).symm.trans h'.1, h'.2⟩) (by kernel_rfl) (by kernel_rfl) ?_
          (refine Rs.wr_y (by simp only [List.getElem?_toArray, List.getElem?_cons_succ, List.getElem?_cons_zero]; rfl) (by rfl) ?_
           apply Exists.intro
           refine ⟨fun wz hw hh => ?_, ?_⟩
           · have hc0 := HSS.out wz hw.1
             go_simp
             (with_reducible exact Rg.up_value)
           simp only [Act.put, List.setIfInBounds_toArray, List.set_cons_zero, List.set_cons_succ])
          (refine Rs.wr_y (by simp only [List.getElem?_toArray, List.getElem?_cons_succ, List.getElem?_cons_zero]; rfl) (by rfl) ?_
           apply Exists.intro
           refine ⟨fun wz hw hh => ?_, ?_⟩
           · have hc0 := HSS.out wz hw.1
             go_simp
             (with_reducible exact Rg.up_value)
           simp only [Act.put, List.setIfInBounds_toArray, List.set_cons_zero, List.set_cons_succ])
          (refine Rs.wr_y (by simp only [List.getElem?_toArray, List.getElem?_cons_succ, List.getElem?_cons_zero]; rfl) (by rfl) ?_
           apply Exists.intro
           refine ⟨fun wz hw hh => ?_, ?_⟩
           · have hc0 := HSS.out wz hw.1
             go_simp
             (with_reducible exact Rg.up_value)
           simp only [Act.put, List.setIfInBounds_toArray, List.set_cons_zero, List.set_cons_succ])
          (refine Rs.wr_y (by simp only [List.getElem?_toArray, List.getElem?_cons_succ, List.getElem?_cons_zero]; rfl) (by rfl) ?_
           apply Exists.intro
           refine ⟨fun wz hw hh => ?_, ?_⟩
           · have hc0 := HSS.out wz hw.1
             go_simp
             (with_reducible exact Rg.up_value)
           simp only [Act.put, List.setIfInBounds_toArray, List.set_cons_zero, List.set_cons_succ])
          (refine Rs.wr_z (fun v _ => ∃ k : Nat, v = .int .i64 (k : Int) ∧ (k : Int) < 9) (by simp only [List.getElem?_toArray, List.getElem?_cons_succ, List.getElem?_cons_zero]; rfl) (by rfl) (fun v w1 w2 h e => h) (fun wz hw hh => ?_) (fun u => ?_)
           · go_simp
             apply Rs.upR_enter
             obtain ⟨p, hp⟩ := hw.2.2.2
             refine (next_any hp 9 (by decide)).mono ?_
             rintro e wq ⟨k, p', rfl, hk, hn, hg⟩
             exact ⟨_, rfl, ⟨hg, ⟨Nat.le_trans hw.2.1.1 hw.1.size, hw.2.1.2⟩, ⟨p, hp⟩, ⟨p', hn⟩⟩, k, rfl, hk⟩
           simp only [Act.put, List.setIfInBounds_toArray, List.set_cons_zero, List.set_cons_succ])
          rename Value => u3
          (refine Rs.wr_y (by simp only [List.getElem?_toArray, List.getElem?_cons_succ, List.getElem?_cons_zero]; rfl) (by rfl) ⟨.int .i64 (1 + iof u3), fun wz hw hh => ?_, ?_⟩
           · obtain ⟨k3, hk3, hk3l⟩ := hh _ List.mem_cons_self
             subst hk3
             have hwr : IntKind.i64.wrap (1 + (k3 : Int)) = 1 + (k3 : Int) := by rw [IntKind.wrap_i64]; omega
             go_simp
             exact Rg.up_value
           simp only [Act.put, List.setIfInBounds_toArray, List.set_cons_zero, List.set_cons_succ])
          (refine Rs.wr_z (fun v _ => ∃ k : Nat, v = .int .i64 (k : Int) ∧ (k : Int) < 11) (by simp only [List.getElem?_toArray, List.getElem?_cons_succ, List.getElem?_cons_zero]; rfl) (by rfl) (fun v w1 w2 h e => h) (fun wz hw hh => ?_) (fun u => ?_)
           · go_simp
             apply Rs.upR_enter
             obtain ⟨p, hp⟩ := hw.2.2.2
             refine (next_any hp 11 (by decide)).mono ?_
             rintro e wq ⟨k, p', rfl, hk, hn, hg⟩
             exact ⟨_, rfl, ⟨hg, ⟨Nat.le_trans hw.2.1.1 hw.1.size, hw.2.1.2⟩, ⟨p, hp⟩, ⟨p', hn⟩⟩, k, rfl, hk⟩
           simp only [Act.put, List.setIfInBounds_toArray, List.set_cons_zero, List.set_cons_succ])
          rename Value => u7
          (refine Rs.wr_m (by simp only [List.getElem?_toArray, List.getElem?_cons_succ, List.getElem?_cons_zero]; rfl) (by rfl) (fun wz => by go_simp) (fun pR hpR => ?_)
           simp only [Act.put, List.setIfInBounds_toArray, List.set_cons_zero, List.set_cons_succ])
          (refine Rs.wr_y (by simp only [List.getElem?_toArray, List.getElem?_cons_succ, List.getElem?_cons_zero]; rfl) (by rfl) ⟨.pointer (some ⟨pR, (iof u7).toNat, none⟩), fun wz hw hh => ?_, ?_⟩
           · obtain ⟨k7', hk7, hk7l⟩ := hh _ (List.mem_cons_of_mem _ List.mem_cons_self)
             subst hk7
             go_simp
             exact Rg.up_value
           simp only [Act.put, List.setIfInBounds_toArray, List.set_cons_zero, List.set_cons_succ])
          (refine Rs.wr_y (by simp only [List.getElem?_toArray, List.getElem?_cons_succ, List.getElem?_cons_zero]; rfl) (by rfl) ⟨.int .i64 (relN (iof u7).toNat), fun wz hw hh => ?_, ?_⟩
           · obtain ⟨k7', hk7, hk7l⟩ := hh _ (List.mem_cons_of_mem _ List.mem_cons_self)
             obtain ⟨-, -, hbl⟩ := hh _ List.mem_cons_self
             subst hk7
             have hrl := rels_at k7' hk7l wz pR hbl
             go_simp
             exact Rg.up_value
           simp only [Act.put, List.setIfInBounds_toArray, List.set_cons_zero, List.set_cons_succ])
          (refine Rs.wr_y (by simp only [List.getElem?_toArray, List.getElem?_cons_succ, List.getElem?_cons_zero]; rfl) (by rfl) ⟨.agg #[.int .i64 (1 + iof u3), .int .i64 (relN (iof u7).toNat)], fun wz hw hh => ?_, ?_⟩
           · go_simp
             exact Rg.up_value
           simp only [Act.put, List.setIfInBounds_toArray, List.set_cons_zero, List.set_cons_succ])
          (refine Rs.wr_z (fun v w => ∃ p, v = .slice (some ⟨p, 0, none⟩) 1 1 ∧ wr.heap.size ≤ p ∧ w.heap[p]? = some (.cells #[.int .i64 (1 + iof u3), .int .i64 (relN (iof u7).toNat)] 36)) (by simp only [List.getElem?_toArray, List.getElem?_cons_succ, List.getElem?_cons_zero]; rfl) (by rfl) (fun v w1 w2 ⟨p, h1, h2, h3⟩ e => ⟨p, h1, h2, (Rs.Gw.block e p h2 (Rg.lt_of_heap h3)).trans h3⟩) (fun wz hw hh => ?_) (fun u => ?_)
           · go_simp
             exact Rs.upR_value (Rs.Gw.alloc (Rs.Gw.refl hw) _) ⟨_, rfl, hw.1.size, alloc_at wz _⟩
           simp only [Act.put, List.setIfInBounds_toArray, List.set_cons_zero, List.set_cons_succ])
          rename Value => u11
          refine Rs.wr_nil ?_
          intro wy hy hh
          obtain ⟨pe, hpe, -, hpb⟩ := hh _ List.mem_cons_self
          obtain ⟨k7', hk7, hk7l⟩ := hh _ (List.mem_cons_of_mem _ (List.mem_cons_of_mem _ List.mem_cons_self))
          obtain ⟨k3, hk3, hk3l⟩ := hh _ (List.mem_cons_of_mem _ (List.mem_cons_of_mem _ (List.mem_cons_of_mem _ List.mem_cons_self)))
          subst hpe hk7 hk3
          clear hh
          simp only [List.filterMap_cons, List.filterMap_nil, List.getElem?_cons_succ, List.getElem?_cons_zero]
          have HZY := Lib.hid (HZ.out.kx HN.out.at_ HN.out.ge hy.1)
          have HBY := Lib.hid (KX.cells hy.1 HN.out.at_ HB.out (by decide))
          obtain ⟨pos3, hn2⟩ := hy.2.2.2
          have HNY := Lib.hid hn2
          have hrb := relN_bd (iof (.int .i64 (k7' : Int))).toNat
          generalize relN (iof (.int .i64 (k7' : Int))).toNat = r at *
          rw [show iof (.int .i64 (k3 : Int)) = (k3 : Int) from rfl] at *
          have HMS2 := Lib.hid (HMS.out.pushR (1 + (k3 : Int), r) ⟨by simp only; omega, by simp only; omega, hrb⟩)
          have hel : rs.length < 1000000 := by omega
          have hsz : W.heap.size ≤ wy.heap.size := HZY.out.low.size
          clear hy hn2 HZ HN HB HMS HSS hG G c3 lbn
          refine append_g (cs := reC) (z := .agg #[.int .i64 0, .int .i64 0]) 24 36 16 Try.underlying24 (by kernel_rfl) (by rfl) (by decide) (by decide) rfl (.tmp 50) (.tmp 60) rfl W.heap.size (.slice oA rs.length oc) rs (by rfl) HZY.out.os.rs pe (1 + (k3 : Int), r) ⟨rfl, by simp [reC, Value.oneCell']⟩ (by rfl) hpb hel hsz ?_
          intro g7 cap7 w7 hr7 hg7 hat7
          have hp7 := row_other HZY.out.os.rs (by decide) hg7 HZY.out.at_
          have f7 : w7.frozen? ⟨D, 3, none⟩ = false := tab_frozen hp7
          have c7 := cell_of_row w7 D 3 _ _ _ hp7
          change w7.cell? _ = some (.slice oA rs.length oc) at c7
          have HZN := Lib.hid (HZY.out.pushR (p := [(1 + (k3 : Int), r)]) hg7 hr7 (HMS2.out.ok (by omega) (by omega) (by omega) HPB8.out))
          have HBN := Lib.hid ((heap_setCell_other (o := 3) (.slice (some ⟨g7, 0, none⟩) (rs.length + 1) cap7) (Nat.ne_of_lt HNE.out)).trans (row_other HZY.out.os.rs (by decide) hg7 HBY.out))
          have HNN : Hid (NX W (w7.setCell ⟨D, 3, none⟩ (.slice (some ⟨g7, 0, none⟩) (rs.length + 1) cap7)) bn (.slice A ns.length c) ns pos3) := Lib.hid ⟨HZN.out.low, (heap_setCell_other (o := 3) _ (cells_ne HNY.out.at_ HZY.out.at_ (by decide))).trans (row_other HZY.out.os.rs (by decide) hg7 HNY.out.at_), HNY.out.ge, HNY.out.ird, HNY.out.le⟩
          clear hr7 hg7 hat7 hp7 hpb
          simp only [Act.put, List.setIfInBounds_toArray, List.set_cons_zero, List.set_cons_succ]
          go_wp2_with (fail)
          exact ⟨⟨rs.length + 1, pos3, _, _, by simp, by omega, by simp, HMS2, HZN, HBN, HNN⟩, by simp [iof]; omega⟩
        · have hr5 : rs.length ≤ 5 := by omega
          have HMS3 := Lib.hid (HMS.out.up (Nat.le_refl 8) (Nat.le_refl 0) hr5)
          have hvl : rs.length = rs.length := rfl
          obtain ⟨v3, hv3⟩ : ∃ v3, v3 = Value.slice oA rs.length oc := ⟨_, rfl⟩
          rw [← hv3] at HZ
          clear hv3 c3
          go_upto_region 15 with (go_at_call 27; (with_reducible refine (next_any HN.out 8 (by decide)).mono ?_); rintro e w14 ⟨k4, pos4, rfl, k48, hnx, hkx⟩)
          have HZ14 := Lib.hid (HZ.out.kx HN.out.at_ HN.out.ge hkx)
          have HB14 := Lib.hid (KX.cells hkx HN.out.at_ HB.out (by decide))
          have HN14 := Lib.hid hnx
          clear HZ HN HB HMS hnx hkx
          go_upto_region 16 with (fail)
          clear hik hlt hvl
          go_loopw [10] (fun iv wr => ∃ (i : Nat) (pos : Nat) (hs : List Ho) (ov : Value), iv = .int .i64 i ∧ i ≤ k4 ∧ hs.length = i ∧ Hid (MS ⟨qs, hs, rs⟩ 8 i 5) ∧ Hid (BS W D wr v0 (.int .i64 0) ov v3 (.int .i64 0) (.int .i64 0) ⟨qs, hs, rs⟩) ∧ Hid (wr.heap[D0]? = some (.cells #[.slice none 0 0, .int .i64 0, .slice none 0 0, .slice none 0 0, .int .i64 0, .int .i64 0] 28)) ∧ Hid (NX W wr bn (.slice A ns.length c) ns pos)) (fun iv _ => k4 - (iof iv).toNat)
          case atStart => exact ⟨0, pos4, [], _, rfl, by omega, rfl, HMS3, HZ14, HB14, HN14⟩
          case round =>
            rename World => wr
            obtain ⟨i, pos, hs, ov, rfl, hik, hpl, HMS, HZ, HB, HN⟩ := hrel
            subst hpl
            clear HZ14 HB14 HN14 HMS3
            obtain ⟨oA, oc, rfl⟩ := row_formG HZ.out.os.hs
            obtain ⟨-, -, c2, -⟩ := HZ.out.c
            by_cases hlt : hs.length < k4
            · go_upto_region 18 with (fail)
              have HSS : Hid (∀ wz, KX bn wr wz → wz.cell? ⟨D, 2, none⟩ = some (.slice oA hs.length oc)) := Lib.hid fun wz hz => (HZ.out.kx HN.out.at_ HN.out.ge hz).c.2.2.1
              have lbn : bn < wr.heap.size := Rg.lt_of_heap HN.out.at_
              letI G : Rs.Gw := gwN W bn (.slice A ns.length c) ns wr.heap.size
              have hG : Rs.Gw.R wr wr := ⟨KX.of_ext (Ext.refl _), ⟨Nat.le_refl _, lbn⟩, ⟨_, HN.out⟩, ⟨_, HN.out⟩⟩
              refine Rq.wp_regionTE hG [] [(0, .y), (1, .y), (2, .y), (5, .y), (8, .y), (3, .z), (4, .y), (6, .z), (7, .y), (9, .z), (10, .y), (11, .y), (12, .z)] [13, 14, 15] (fun _ => (.cells #[] 3, fun p => .slice (some ⟨p, 0, none⟩) 11 11)) (fun c a d v w h => by have h' : _ ∧ _ := h; exact ⟨(Rr.put_defers a d v).symm.trans h'.1, h'.2⟩) (by kernel_rfl) (by kernel_rfl) ?_
              (refine Rs.wr_y (by simp only [List.getElem?_toArray, List.getElem?_cons_succ, List.getElem?_cons_zero]; rfl) (by rfl) ?_
               apply Exists.intro
               refine ⟨fun wz hw hh => ?_, ?_⟩
               · have hc0 := HSS.out wz hw.1
                 go_simp
                 (with_reducible exact Rg.up_value)
               simp only [Act.put, List.setIfInBounds_toArray, List.set_cons_zero, List.set_cons_succ])
              (refine Rs.wr_y (by simp only [List.getElem?_toArray, List.getElem?_cons_succ, List.getElem?_cons_zero]; rfl) (by rfl) ?_
               apply Exists.intro
               refine ⟨fun wz hw hh => ?_, ?_⟩
               · have hc0 := HSS.out wz hw.1
                 go_simp
                 (with_reducible exact Rg.up_value)
               simp only [Act.put, List.setIfInBounds_toArray, List.set_cons_zero, List.set_cons_succ])
              (refine Rs.wr_y (by simp only [List.getElem?_toArray, List.getElem?_cons_succ, List.getElem?_cons_zero]; rfl) (by rfl) ?_
               apply Exists.intro
               refine ⟨fun wz hw hh => ?_, ?_⟩
               · have hc0 := HSS.out wz hw.1
                 go_simp
                 (with_reducible exact Rg.up_value)
               simp only [Act.put, List.setIfInBounds_toArray, List.set_cons_zero, List.set_cons_succ])
              (refine Rs.wr_y (by simp only [List.getElem?_toArray, List.getElem?_cons_succ, List.getElem?_cons_zero]; rfl) (by rfl) ?_
               apply Exists.intro
               refine ⟨fun wz hw hh => ?_, ?_⟩
               · have hc0 := HSS.out wz hw.1
                 go_simp
                 (with_reducible exact Rg.up_value)
               simp only [Act.put, List.setIfInBounds_toArray, List.set_cons_zero, List.set_cons_succ])
              (refine Rs.wr_y (by simp only [List.getElem?_toArray, List.getElem?_cons_succ, List.getElem?_cons_zero]; rfl) (by rfl) ?_
               apply Exists.intro
               refine ⟨fun wz hw hh => ?_, ?_⟩
               · have hc0 := HSS.out wz hw.1
                 go_simp
                 (with_reducible exact Rg.up_value)
               simp only [Act.put, List.setIfInBounds_toArray, List.set_cons_zero, List.set_cons_succ])
              (refine Rs.wr_z (fun v _ => ∃ k : Nat, v = .int .i64 (k : Int) ∧ (k : Int) < 9) (by simp only [List.getElem?_toArray, List.getElem?_cons_succ, List.getElem?_cons_zero]; rfl) (by rfl) (fun v w1 w2 h e => h) (fun wz hw hh => ?_) (fun u => ?_)
               · go_simp
                 apply Rs.upR_enter
                 obtain ⟨p, hp⟩ := hw.2.2.2
                 refine (next_any hp 9 (by decide)).mono ?_
                 rintro e wq ⟨k, p', rfl, hk, hn, hg⟩
                 exact ⟨_, rfl, ⟨hg, ⟨Nat.le_trans hw.2.1.1 hw.1.size, hw.2.1.2⟩, ⟨p, hp⟩, ⟨p', hn⟩⟩, k, rfl, hk⟩
               simp only [Act.put, List.setIfInBounds_toArray, List.set_cons_zero, List.set_cons_succ])
              rename Value => u3
              (refine Rs.wr_y (by simp only [List.getElem?_toArray, List.getElem?_cons_succ, List.getElem?_cons_zero]; rfl) (by rfl) ⟨.int .i64 (1 + iof u3), fun wz hw hh => ?_, ?_⟩
               · obtain ⟨k3, hk3, hk3l⟩ := hh _ List.mem_cons_self
                 subst hk3
                 have hwr : IntKind.i64.wrap (1 + (k3 : Int)) = 1 + (k3 : Int) := by rw [IntKind.wrap_i64]; omega
                 go_simp
                 exact Rg.up_value
               simp only [Act.put, List.setIfInBounds_toArray, List.set_cons_zero, List.set_cons_succ])
              (refine Rs.wr_z (fun v _ => ∃ k : Nat, v = .int .i64 (k : Int) ∧ (k : Int) < 5) (by simp only [List.getElem?_toArray, List.getElem?_cons_succ, List.getElem?_cons_zero]; rfl) (by rfl) (fun v w1 w2 h e => h) (fun wz hw hh => ?_) (fun u => ?_)
               · go_simp
                 apply Rs.upR_enter
                 obtain ⟨p, hp⟩ := hw.2.2.2
                 refine (next_any hp 5 (by decide)).mono ?_
                 rintro e wq ⟨k, p', rfl, hk, hn, hg⟩
                 exact ⟨_, rfl, ⟨hg, ⟨Nat.le_trans hw.2.1.1 hw.1.size, hw.2.1.2⟩, ⟨p, hp⟩, ⟨p', hn⟩⟩, k, rfl, hk⟩
               simp only [Act.put, List.setIfInBounds_toArray, List.set_cons_zero, List.set_cons_succ])
              rename Value => u6
              (refine Rs.wr_y (by simp only [List.getElem?_toArray, List.getElem?_cons_succ, List.getElem?_cons_zero]; rfl) (by rfl) ⟨.int .i64 (11 + iof u6), fun wz hw hh => ?_, ?_⟩
               · obtain ⟨k3, hk3, hk3l⟩ := hh _ List.mem_cons_self
                 subst hk3
                 have hwr : IntKind.i64.wrap (11 + (k3 : Int)) = 11 + (k3 : Int) := by rw [IntKind.wrap_i64]; omega
                 go_simp
                 exact Rg.up_value
               simp only [Act.put, List.setIfInBounds_toArray, List.set_cons_zero, List.set_cons_succ])
              (refine Rs.wr_z (fun v _ => ∃ k : Nat, v = .int .i64 (k : Int) ∧ (k : Int) < 9) (by simp only [List.getElem?_toArray, List.getElem?_cons_succ, List.getElem?_cons_zero]; rfl) (by rfl) (fun v w1 w2 h e => h) (fun wz hw hh => ?_) (fun u => ?_)
               · go_simp
                 apply Rs.upR_enter
                 obtain ⟨p, hp⟩ := hw.2.2.2
                 refine (next_any hp 9 (by decide)).mono ?_
                 rintro e wq ⟨k, p', rfl, hk, hn, hg⟩
                 exact ⟨_, rfl, ⟨hg, ⟨Nat.le_trans hw.2.1.1 hw.1.size, hw.2.1.2⟩, ⟨p, hp⟩, ⟨p', hn⟩⟩, k, rfl, hk⟩
               simp only [Act.put, List.setIfInBounds_toArray, List.set_cons_zero, List.set_cons_succ])
              rename Value => u9
              (refine Rs.wr_y (by simp only [List.getElem?_toArray, List.getElem?_cons_succ, List.getElem?_cons_zero]; rfl) (by rfl) ⟨.int .i64 (iof u9 - 1), fun wz hw hh => ?_, ?_⟩
               · obtain ⟨k3, hk3, hk3l⟩ := hh _ List.mem_cons_self
                 subst hk3
                 have hwr : IntKind.i64.wrap ((k3 : Int) - 1) = (k3 : Int) - 1 := by rw [IntKind.wrap_i64]; omega
                 go_simp
                 exact Rg.up_value
               simp only [Act.put, List.setIfInBounds_toArray, List.set_cons_zero, List.set_cons_succ])
              (refine Rs.wr_y (by simp only [List.getElem?_toArray, List.getElem?_cons_succ, List.getElem?_cons_zero]; rfl) (by rfl) ⟨.agg #[.int .i64 (1 + iof u3), .int .i64 (11 + iof u6), .int .i64 (iof u9 - 1)], fun wz hw hh => ?_, ?_⟩
               · go_simp
                 exact Rg.up_value
               simp only [Act.put, List.setIfInBounds_toArray, List.set_cons_zero, List.set_cons_succ])
              (refine Rs.wr_z (fun v w => ∃ p, v = .slice (some ⟨p, 0, none⟩) 1 1 ∧ wr.heap.size ≤ p ∧ w.heap[p]? = some (.cells #[.int .i64 (1 + iof u3), .int .i64 (11 + iof u6), .int .i64 (iof u9 - 1)] 33)) (by simp only [List.getElem?_toArray, List.getElem?_cons_succ, List.getElem?_cons_zero]; rfl) (by rfl) (fun v w1 w2 ⟨p, h1, h2, h3⟩ e => ⟨p, h1, h2, (Rs.Gw.block e p h2 (Rg.lt_of_heap h3)).trans h3⟩) (fun wz hw hh => ?_) (fun u => ?_)
               · go_simp
                 exact Rs.upR_value (Rs.Gw.alloc (Rs.Gw.refl hw) _) ⟨_, rfl, hw.1.size, alloc_at wz _⟩
               simp only [Act.put, List.setIfInBounds_toArray, List.set_cons_zero, List.set_cons_succ])
              rename Value => u12
              refine Rs.wr_nil ?_
              intro wy hy hh
              obtain ⟨pe, hpe, -, hpb⟩ := hh _ List.mem_cons_self
              obtain ⟨k9, hk9, hk9l⟩ := hh _ (List.mem_cons_of_mem _ List.mem_cons_self)
              obtain ⟨k6, hk6, hk6l⟩ := hh _ (List.mem_cons_of_mem _ (List.mem_cons_of_mem _ List.mem_cons_self))
              obtain ⟨k3, hk3, hk3l⟩ := hh _ (List.mem_cons_of_mem _ (List.mem_cons_of_mem _ (List.mem_cons_of_mem _ List.mem_cons_self)))
              subst hpe hk9 hk6 hk3
              clear hh
              simp only [List.filterMap_cons, List.filterMap_nil, List.getElem?_cons_succ, List.getElem?_cons_zero]
              have HZY := Lib.hid (HZ.out.kx HN.out.at_ HN.out.ge hy.1)
              have HBY := Lib.hid (KX.cells hy.1 HN.out.at_ HB.out (by decide))
              obtain ⟨pos5, hn2⟩ := hy.2.2.2
              have HNY := Lib.hid hn2
              rw [show iof (.int .i64 (k3 : Int)) = (k3 : Int) from rfl, show iof (.int .i64 (k6 : Int)) = (k6 : Int) from rfl, show iof (.int .i64 (k9 : Int)) = (k9 : Int) from rfl] at *
              have HMS2 := Lib.hid (HMS.out.pushH ⟨1 + (k3 : Int), 11 + (k6 : Int), (k9 : Int) - 1⟩ ⟨by simp only; omega, by simp only; omega, by simp only; omega, by simp only; omega, by simp only; omega, by simp only; omega⟩)
              have hel : hs.length < 1000000 := by omega
              have hsz : W.heap.size ≤ wy.heap.size := HZY.out.low.size
              clear hy hn2 HZ HN HB HMS HSS hG G c2 lbn
              refine append_g (cs := Ho.cs) (z := .agg #[.int .i64 0, .int .i64 0, .int .i64 0]) 23 33 24 Try.underlying23 (by kernel_rfl) (by rfl) (by decide) (by decide) rfl (.tmp 71) (.tmp 82) rfl W.heap.size (.slice oA hs.length oc) hs (by rfl) HZY.out.os.hs pe ⟨1 + (k3 : Int), 11 + (k6 : Int), (k9 : Int) - 1⟩ ⟨rfl, by simp [Ho.cs, Value.oneCell']⟩ (by rfl) hpb hel hsz ?_
              intro g7 cap7 w7 hr7 hg7 hat7
              have hp7 := row_other HZY.out.os.hs (by decide) hg7 HZY.out.at_
              have f7 : w7.frozen? ⟨D, 2, none⟩ = false := tab_frozen hp7
              have c7 := cell_of_row w7 D 2 _ _ _ hp7
              change w7.cell? _ = some (.slice oA hs.length oc) at c7
              have HZN := Lib.hid (HZY.out.pushH (p := [⟨1 + (k3 : Int), 11 + (k6 : Int), (k9 : Int) - 1⟩]) hg7 hr7 (HMS2.out.ok (by omega) (by omega) (by omega) HPB8.out))
              have HBN := Lib.hid ((heap_setCell_other (o := 2) (.slice (some ⟨g7, 0, none⟩) (hs.length + 1) cap7) (Nat.ne_of_lt HNE.out)).trans (row_other HZY.out.os.hs (by decide) hg7 HBY.out))
              have HNN : Hid (NX W (w7.setCell ⟨D, 2, none⟩ (.slice (some ⟨g7, 0, none⟩) (hs.length + 1) cap7)) bn (.slice A ns.length c) ns pos5) := Lib.hid ⟨HZN.out.low, (heap_setCell_other (o := 2) _ (cells_ne HNY.out.at_ HZY.out.at_ (by decide))).trans (row_other HZY.out.os.hs (by decide) hg7 HNY.out.at_), HNY.out.ge, HNY.out.ird, HNY.out.le⟩
              clear hr7 hg7 hat7 hp7 hpb
              simp only [Act.put, List.setIfInBounds_toArray, List.set_cons_zero, List.set_cons_succ]
              go_wp2_with (fail)
              exact ⟨⟨hs.length + 1, pos5, _, _, by simp, by omega, by simp, HMS2, HZN, HBN, HNN⟩, by simp [iof]; omega⟩
            · have hr7' : hs.length ≤ 7 := by omega
              have HMS4 := Lib.hid (HMS.out.up (Nat.le_refl 8) hr7' (Nat.le_refl 5))
              obtain ⟨c0, c1, c2, c3, c4, c5⟩ := HZ.out.c
              clear HN HMS
              obtain ⟨B0, n0, hv0⟩ := row_formG HZ.out.os.ps
              obtain ⟨B3, n3, hv3⟩ := row_formG HZ.out.os.rs
              change v0 = .slice B0 qs.length n0 at hv0
              change v3 = .slice B3 rs.length n3 at hv3
              subst hv0 hv3
              obtain ⟨row, hrow⟩ : ∃ row : Array Value, row = #[.slice B0 qs.length n0, .int .i64 0, .slice oA hs.length oc, .slice B3 rs.length n3, .int .i64 0, .int .i64 0] := ⟨_, rfl⟩
              have hone : ∀ v ∈ row.toList, v.oneCell' = true := by rw [hrow]; simp [Value.oneCell']
              have hrs : row.size = 6 := by rw [hrow]; rfl
              go_upto_region 19 with (fail)
              go_wp2_with (refine wpList_store_row (hgd := rfl) 28 (.tmp 2) (.tmp 85) rfl D0 (by rfl) row (by rw [hrow]; rfl) _ 28 HB.out (by rw [hrs]; rfl) (by rw [hrs]; kernel_rfl) hone ?_)
              have hfin := setRow_heap wr D0 _ row _ _ HB.out
              have hx6 : Below W.heap.size W (wr.setRow D0 row) := below_setRow HZ.out.low (by have := HD0.out; omega) _
              have hkeep : ∀ g, g ≠ D0 → (wr.setRow D0 row).heap[g]? = wr.heap[g]? := fun g hg => setRow_other wr D0 g _ hg
              have kr : ∀ {v : Value} {xs : List Value} {n B E sz : Nat}, E ≠ 28 → wr.ownsRow B E sz v n xs → (wr.setRow D0 row).ownsRow B E sz v n xs := fun {v xs n B E sz} hE hv => row_keepK hv fun g e => hkeep g (by
                obtain ⟨cs, hc⟩ := row_block hv e
                exact cells_ne hc HB.out hE)
              subst hrow
              refine bodyPost_ret (v := .agg _) (results_cell_row Try.results12 _ _ D0 28 _ _ _ (by rfl) hfin Try.underlying28 rfl (by kernel_rfl)) rfl ⟨_, _, _, _, _, _, rfl, ⟨qs, hs, rs⟩, ⟨kr (by decide) HZ.out.os.ps, kr (by decide) HZ.out.os.hs, kr (by decide) HZ.out.os.rs, ⟨_, rfl⟩, ⟨_, rfl⟩, ⟨_, rfl⟩, HZ.out.os.ok⟩, hx6, HMS4.out⟩
end Go.Proofs.Ytlekdhhgjhakgaa
