/-
  grade.line: the text of a grade's line. Condition: the table of powers of ten, and sizes.
-/
import Derived.Test.YtnplnfkmcfalhaaGreatDoorGzE
import Derived.Lib.ItoaLen
import Derived.Lib.Join
namespace Go.Proofs.YtnplnfkmcfalhaaGreatDoor
set_option linter.unusedVariables false
set_option linter.unusedSimpArgs false
open Go.RowKit Go.Sort Go.Shelf

def TabW (w : World) : Prop := Lib.TabIs Tryz.prog w "internal/strconv.uint64pow10" .u64 Lib.pow10Tab
theorem TabW.ext {w w' : World} (h : TabW w) (e : Ext w w') : TabW w' := by
  unfold TabW Lib.TabIs World.var? at h ⊢
  rw [show Tryz.prog.globalNamed "internal/strconv.uint64pow10" = some 0 by kernel_rfl] at h ⊢
  simp only [Option.bind_eq_bind, Option.bind_some] at h ⊢
  rw [e.block 0 (by
    rcases Nat.lt_or_ge 0 w.heap.size with h' | h'
    · exact h'
    · rw [Array.getElem?_eq_none h'] at h
      simp at h)]
  exact h
def itoaS (n : Int) : ByteArray := ⟨(Lib.itoa n).toArray⟩
theorem itoaS_size {n : Int} (h : OkI n) : (itoaS n).size ≤ 21 := by
  have := Lib.itoa_length_le n h.1 h.2
  simpa [itoaS, ByteArray.size] using this
theorem itoa_any {n : Int} (hn : OkI n) (w : World) (ht : TabW w) : Calls Tryz.prog 36 #[.int .i64 n] w fun e w' => e = .returned (.string (itoaS n)) ∧ Ext w w' :=
  (strconv_Itoa n hn.1 hn.2 w ht).mono fun _ _ ⟨h, k, os, e⟩ => ⟨h, by
    subst e
    exact ⟨rfl, rfl, rfl, by simp [Go.Sort.grow], fun i hi => by
      simp only [Go.Sort.grow]
      exact Array.getElem?_append_left hi⟩⟩
/-- A line's text. -/
def lineS (word : ByteArray) (g : Gd) : ByteArray := ⟨(Lib.join ([word, itoaS g.bid, itoaS g.lot, g.name, itoaS g.ass, itoaS g.n, itoaS g.tm].map (·.data.toList)) [32]).toArray⟩ ++ ⟨#[10]⟩
theorem bsize (x : ByteArray) : x.data.toList.length = x.size := Array.length_toList
set_option maxRecDepth 100000 in
set_option maxHeartbeats 2000000 in
theorem line_any (word : ByteArray) (g : Gd) (hw : word.size ≤ 100) (hg : g.ok) (hs : g.name.size ≤ 1000) (w : World) (ht : TabW w) :
    Calls Tryz.prog 33 #[.string word, g.v] w fun e w' => e = .returned (.string (lineS word g)) ∧ Ext w w' := by
  have hlen : (Lib.join ([word, itoaS g.bid, itoaS g.lot, g.name, itoaS g.ass, itoaS g.n, itoaS g.tm].map (·.data.toList)) [32]).length ≤ 2000 := by
    simp only [List.map_cons, List.map_nil, Lib.join_length, Lib.lens, List.map_cons, List.sum_cons, bsize]
    have h1 := itoaS_size hg.1
    have h2 := itoaS_size hg.2.1
    have h3 := itoaS_size hg.2.2.1
    have h4 := itoaS_size hg.2.2.2.2.1
    have h5 := itoaS_size hg.2.2.2.2.2
    simp
    omega
  have HL : Hid (∀ p W, W.heap[p]? = some (.cells #[.string word, .string (itoaS g.bid), .string (itoaS g.lot), .string g.name, .string (itoaS g.ass), .string (itoaS g.n), .string (itoaS g.tm)] 9) →
      Calls Tryz.prog 53 #[.slice (some ⟨p, 0, none⟩) 7 7, .string ⟨#[32]⟩] W fun e w' => e = .returned (.string ⟨(Lib.join ([word, itoaS g.bid, itoaS g.lot, g.name, itoaS g.ass, itoaS g.n, itoaS g.tm].map (·.data.toList)) [32]).toArray⟩) ∧ Ext W w') := Lib.hid fun p W hp => by
    refine strings_Join p 0 7 [word, itoaS g.bid, itoaS g.lot, g.name, itoaS g.ass, itoaS g.n, itoaS g.tm] ⟨#[32]⟩ W (fun j x hj => ?_) (Rg.lt_of_heap hp) (by simp) (by simp) (Nat.le_trans hlen (by decide))
    rw [cell_of_row W p _ _ _ _ hp]
    match j, hj with
    | 0, hj => obtain rfl := Option.some.inj hj; rfl
    | 1, hj => obtain rfl := Option.some.inj hj; rfl
    | 2, hj => obtain rfl := Option.some.inj hj; rfl
    | 3, hj => obtain rfl := Option.some.inj hj; rfl
    | 4, hj => obtain rfl := Option.some.inj hj; rfl
    | 5, hj => obtain rfl := Option.some.inj hj; rfl
    | 6, hj => obtain rfl := Option.some.inj hj; rfl
    | n + 7, hj => simp at hj
  have HR : Hid (lineS word g = ⟨(Lib.join ([word, itoaS g.bid, itoaS g.lot, g.name, itoaS g.ass, itoaS g.n, itoaS g.tm].map (·.data.toList)) [32]).toArray⟩ ++ ⟨#[10]⟩) := Lib.hid rfl
  have HZ : Hid ((⟨(Lib.join ([word, itoaS g.bid, itoaS g.lot, g.name, itoaS g.ass, itoaS g.n, itoaS g.tm].map (·.data.toList)) [32]).toArray⟩ : ByteArray).size ≤ 2000) := Lib.hid (by rw [← bsize]; exact hlen)
  have H1 := Lib.hid (fun W (h : TabW W) => itoa_any hg.2.1 W h)
  have H2 := Lib.hid (fun W (h : TabW W) => itoa_any hg.2.2.1 W h)
  have H3 := Lib.hid (fun W (h : TabW W) => itoa_any hg.1 W h)
  have H4 := Lib.hid (fun W (h : TabW W) => itoa_any hg.2.2.2.2.1 W h)
  have H5 := Lib.hid (fun W (h : TabW W) => itoa_any hg.2.2.2.2.2 W h)
  clear hlen hs hg hw
  generalize lineS word g = ls at *
  obtain ⟨g0, g1, g2, g3, g4, g5⟩ := g
  generalize (⟨(Lib.join ([word, itoaS g1, itoaS g2, g3, itoaS g0, itoaS g4, itoaS g5].map (·.data.toList)) [32]).toArray⟩ : ByteArray) = jn at *
  simp only at HL HR HZ H1 H2 H3 H4 H5
  generalize itoaS g1 = s1 at *
  generalize itoaS g2 = s2 at *
  generalize itoaS g0 = s0 at *
  generalize itoaS g4 = s4 at *
  generalize itoaS g5 = s5 at *
  unfold Gd.v
  simp only
  go_enter Tryz.func33, Tryz.ntmps33
  go_upto_region 1 with (fail)
  have hx1 : Ext w (w.alloc (.cells #[.int .i64 g0, .int .i64 g1, .int .i64 g2, .string g3, .int .i64 g4, .int .i64 g5] 23)) := Ext.alloc (Ext.refl _) _
  have hq := heap_alloc_new w (.cells #[.int .i64 g0, .int .i64 g1, .int .i64 g2, .string g3, .int .i64 g4, .int .i64 g5] 23)
  generalize (w.alloc (.cells #[.int .i64 g0, .int .i64 g1, .int .i64 g2, .string g3, .int .i64 g4, .int .i64 g5] 23)) = W1 at *
  obtain ⟨px, hpx⟩ : ∃ px, px = w.heap.size := ⟨_, rfl⟩
  rw [← hpx] at hq ⊢
  have q0 := cell_of_row W1 px 0 _ _ _ hq
  have q1 := cell_of_row W1 px 1 _ _ _ hq
  have q2 := cell_of_row W1 px 2 _ _ _ hq
  have q3 := cell_of_row W1 px 3 _ _ _ hq
  have q4 := cell_of_row W1 px 4 _ _ _ hq
  have q5 := cell_of_row W1 px 5 _ _ _ hq
  have ql := (Array.getElem?_eq_some_iff.1 hq).1
  have HX := Lib.hid hx1
  have HT := Lib.hid (ht.ext hx1)
  clear hq hx1 hpx ht
  refine Rr.wp_region [(0, .y), (1, .y), (2, .y), (3, .y), (4, .y), (5, .y), (6, .y), (7, .y), (8, .y), (9, .y), (10, .y), (11, .y), (12, .y), (13, .y), (14, .y), (15, .y), (16, .y), (17, .y), (18, .m)] (fun _ => (.cells #[.string word, .string s1, .string s2, .string g3, .string s0, .string s4, .string s5] 9, fun p => .slice (some ⟨p, 0, none⟩) 7 7)) (by kernel_rfl) (by kernel_rfl) ?_
  (refine Rr.wr_y (by simp only [List.getElem?_toArray, List.getElem?_cons_succ, List.getElem?_cons_zero]; rfl) (by rfl) ?_
   apply Exists.intro
   refine ⟨fun wz hw _ => ?_, ?_⟩
   · have hcz := hw.cells.1
     go_simp
     (with_reducible exact Rg.up_value)
   simp only [Act.put, List.setIfInBounds_toArray, List.set_cons_zero, List.set_cons_succ])
  (refine Rr.wr_y (by simp only [List.getElem?_toArray, List.getElem?_cons_succ, List.getElem?_cons_zero]; rfl) (by rfl) ?_
   apply Exists.intro
   refine ⟨fun wz hw _ => ?_, ?_⟩
   · have hcz := hw.cells.1
     go_simp
     (with_reducible exact Rg.up_value)
   simp only [Act.put, List.setIfInBounds_toArray, List.set_cons_zero, List.set_cons_succ])
  (refine Rr.wr_y (by simp only [List.getElem?_toArray, List.getElem?_cons_succ, List.getElem?_cons_zero]; rfl) (by rfl) ?_
   apply Exists.intro
   refine ⟨fun wz hw _ => ?_, ?_⟩
   · have hcz := hw.cells.1
     go_simp
     (with_reducible exact Rg.up_value)
   simp only [Act.put, List.setIfInBounds_toArray, List.set_cons_zero, List.set_cons_succ])
  (refine Rr.wr_y (by simp only [List.getElem?_toArray, List.getElem?_cons_succ, List.getElem?_cons_zero]; rfl) (by rfl) ?_
   apply Exists.intro
   refine ⟨fun wz hw _ => ?_, ?_⟩
   · have hcz := hw.cells.1
     go_simp
     apply Rg.up_enter
     (with_reducible refine (H1.out _ (TabW.ext HT.out hw)).mono ?_)
     rintro e w3 ⟨rfl, hb3⟩
     exact ⟨rfl, hb3⟩
   simp only [Act.put, List.setIfInBounds_toArray, List.set_cons_zero, List.set_cons_succ])
  (refine Rr.wr_y (by simp only [List.getElem?_toArray, List.getElem?_cons_succ, List.getElem?_cons_zero]; rfl) (by rfl) ?_
   apply Exists.intro
   refine ⟨fun wz hw _ => ?_, ?_⟩
   · have hcz := hw.cells.1
     go_simp
     (with_reducible exact Rg.up_value)
   simp only [Act.put, List.setIfInBounds_toArray, List.set_cons_zero, List.set_cons_succ])
  (refine Rr.wr_y (by simp only [List.getElem?_toArray, List.getElem?_cons_succ, List.getElem?_cons_zero]; rfl) (by rfl) ?_
   apply Exists.intro
   refine ⟨fun wz hw _ => ?_, ?_⟩
   · have hcz := hw.cells.1
     go_simp
     (with_reducible exact Rg.up_value)
   simp only [Act.put, List.setIfInBounds_toArray, List.set_cons_zero, List.set_cons_succ])
  (refine Rr.wr_y (by simp only [List.getElem?_toArray, List.getElem?_cons_succ, List.getElem?_cons_zero]; rfl) (by rfl) ?_
   apply Exists.intro
   refine ⟨fun wz hw _ => ?_, ?_⟩
   · have hcz := hw.cells.1
     go_simp
     apply Rg.up_enter
     (with_reducible refine (H2.out _ (TabW.ext HT.out hw)).mono ?_)
     rintro e w3 ⟨rfl, hb3⟩
     exact ⟨rfl, hb3⟩
   simp only [Act.put, List.setIfInBounds_toArray, List.set_cons_zero, List.set_cons_succ])
  (refine Rr.wr_y (by simp only [List.getElem?_toArray, List.getElem?_cons_succ, List.getElem?_cons_zero]; rfl) (by rfl) ?_
   apply Exists.intro
   refine ⟨fun wz hw _ => ?_, ?_⟩
   · have hcz := hw.cells.1
     go_simp
     (with_reducible exact Rg.up_value)
   simp only [Act.put, List.setIfInBounds_toArray, List.set_cons_zero, List.set_cons_succ])
  (refine Rr.wr_y (by simp only [List.getElem?_toArray, List.getElem?_cons_succ, List.getElem?_cons_zero]; rfl) (by rfl) ?_
   apply Exists.intro
   refine ⟨fun wz hw _ => ?_, ?_⟩
   · have hcz := hw.cells.1
     go_simp
     (with_reducible exact Rg.up_value)
   simp only [Act.put, List.setIfInBounds_toArray, List.set_cons_zero, List.set_cons_succ])
  (refine Rr.wr_y (by simp only [List.getElem?_toArray, List.getElem?_cons_succ, List.getElem?_cons_zero]; rfl) (by rfl) ?_
   apply Exists.intro
   refine ⟨fun wz hw _ => ?_, ?_⟩
   · have hcz := hw.cells.1
     go_simp
     (with_reducible exact Rg.up_value)
   simp only [Act.put, List.setIfInBounds_toArray, List.set_cons_zero, List.set_cons_succ])
  (refine Rr.wr_y (by simp only [List.getElem?_toArray, List.getElem?_cons_succ, List.getElem?_cons_zero]; rfl) (by rfl) ?_
   apply Exists.intro
   refine ⟨fun wz hw _ => ?_, ?_⟩
   · have hcz := hw.cells.1
     go_simp
     (with_reducible exact Rg.up_value)
   simp only [Act.put, List.setIfInBounds_toArray, List.set_cons_zero, List.set_cons_succ])
  (refine Rr.wr_y (by simp only [List.getElem?_toArray, List.getElem?_cons_succ, List.getElem?_cons_zero]; rfl) (by rfl) ?_
   apply Exists.intro
   refine ⟨fun wz hw _ => ?_, ?_⟩
   · have hcz := hw.cells.1
     go_simp
     apply Rg.up_enter
     (with_reducible refine (H3.out _ (TabW.ext HT.out hw)).mono ?_)
     rintro e w3 ⟨rfl, hb3⟩
     exact ⟨rfl, hb3⟩
   simp only [Act.put, List.setIfInBounds_toArray, List.set_cons_zero, List.set_cons_succ])
  (refine Rr.wr_y (by simp only [List.getElem?_toArray, List.getElem?_cons_succ, List.getElem?_cons_zero]; rfl) (by rfl) ?_
   apply Exists.intro
   refine ⟨fun wz hw _ => ?_, ?_⟩
   · have hcz := hw.cells.1
     go_simp
     (with_reducible exact Rg.up_value)
   simp only [Act.put, List.setIfInBounds_toArray, List.set_cons_zero, List.set_cons_succ])
  (refine Rr.wr_y (by simp only [List.getElem?_toArray, List.getElem?_cons_succ, List.getElem?_cons_zero]; rfl) (by rfl) ?_
   apply Exists.intro
   refine ⟨fun wz hw _ => ?_, ?_⟩
   · have hcz := hw.cells.1
     go_simp
     (with_reducible exact Rg.up_value)
   simp only [Act.put, List.setIfInBounds_toArray, List.set_cons_zero, List.set_cons_succ])
  (refine Rr.wr_y (by simp only [List.getElem?_toArray, List.getElem?_cons_succ, List.getElem?_cons_zero]; rfl) (by rfl) ?_
   apply Exists.intro
   refine ⟨fun wz hw _ => ?_, ?_⟩
   · have hcz := hw.cells.1
     go_simp
     apply Rg.up_enter
     (with_reducible refine (H4.out _ (TabW.ext HT.out hw)).mono ?_)
     rintro e w3 ⟨rfl, hb3⟩
     exact ⟨rfl, hb3⟩
   simp only [Act.put, List.setIfInBounds_toArray, List.set_cons_zero, List.set_cons_succ])
  (refine Rr.wr_y (by simp only [List.getElem?_toArray, List.getElem?_cons_succ, List.getElem?_cons_zero]; rfl) (by rfl) ?_
   apply Exists.intro
   refine ⟨fun wz hw _ => ?_, ?_⟩
   · have hcz := hw.cells.1
     go_simp
     (with_reducible exact Rg.up_value)
   simp only [Act.put, List.setIfInBounds_toArray, List.set_cons_zero, List.set_cons_succ])
  (refine Rr.wr_y (by simp only [List.getElem?_toArray, List.getElem?_cons_succ, List.getElem?_cons_zero]; rfl) (by rfl) ?_
   apply Exists.intro
   refine ⟨fun wz hw _ => ?_, ?_⟩
   · have hcz := hw.cells.1
     go_simp
     (with_reducible exact Rg.up_value)
   simp only [Act.put, List.setIfInBounds_toArray, List.set_cons_zero, List.set_cons_succ])
  (refine Rr.wr_y (by simp only [List.getElem?_toArray, List.getElem?_cons_succ, List.getElem?_cons_zero]; rfl) (by rfl) ?_
   apply Exists.intro
   refine ⟨fun wz hw _ => ?_, ?_⟩
   · have hcz := hw.cells.1
     go_simp
     apply Rg.up_enter
     (with_reducible refine (H5.out _ (TabW.ext HT.out hw)).mono ?_)
     rintro e w3 ⟨rfl, hb3⟩
     exact ⟨rfl, hb3⟩
   simp only [Act.put, List.setIfInBounds_toArray, List.set_cons_zero, List.set_cons_succ])
  refine Rr.wr_m (by simp only [List.getElem?_toArray, List.getElem?_cons_succ, List.getElem?_cons_zero]; rfl) (by rfl) (fun wz => by go_simp) (fun p hp => ?_)
  simp only [Act.put, List.setIfInBounds_toArray, List.set_cons_zero, List.set_cons_succ]
  refine Rr.wr_nil ?_
  intro wy hy hh
  obtain ⟨-, hb⟩ := hh _ List.mem_cons_self
  have HJ := Lib.hid (HL.out p wy hb)
  have hz := HZ.out
  simp only [List.length_cons, List.length_nil, List.drop_succ_cons, List.drop_zero, Nat.reduceAdd]
  clear hh hb
  go_wp2_with (go_at_call 53; (with_reducible refine HJ.out.mono ?_); rintro e w3 ⟨rfl, hx3⟩)
  go_ret
  exact ⟨by rw [HR.out]; rfl, (HX.out.trans hy).trans hx3⟩
end Go.Proofs.YtnplnfkmcfalhaaGreatDoor
