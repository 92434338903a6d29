/-
  The reference's decimal: the same text as the library's Itoa. Condition: the number.
  The reference's line: the same text as grade's. Condition: sizes.
  The reference's order of grades: the places' order. Nothing is asked.
  The reference's book with its grades, finals and changed grades; find. Condition: what the book holds.
  The reference's IsFinal. Condition: what the book holds.
  The reference's lists and a book: what they share. Plain laws; nothing is asked.
  The least grade that is not done yet is the next one in the places' order. Plain laws; nothing is asked.
  A list of ints put in order by exchanges: the next least one. Plain laws; nothing is asked.
  The reference's Give, as it answers; grade's answers alike. Plain laws; nothing is asked.
-/
import Derived.Laws.BytesArg
import Derived.Test.YtnplnfkmcfalhaaGreatDoorGzF
import Derived.Test.YtnplnfkmcfalhaaGreatDoorGzG
import Derived.Test.YtnplnfkmcfalhaaGreatDoorGoA
namespace Go.Proofs.YtnplnfkmcfalhaaGreatDoor
set_option linter.unusedVariables false
set_option linter.unusedSimpArgs false
open Go.RowKit Go.Sort Go.Shelf

/-- The digits of u; none for 0. -/
def dz (u : Nat) : List UInt8 := if u = 0 then [] else Lib.decDigits u
theorem dz_step {u : Nat} (h : u ≠ 0) : dz u = dz (u / 10) ++ [UInt8.ofNat (48 + u % 10)] := by
  unfold dz
  rw [if_neg h, Lib.decDigits]
  by_cases h1 : u < 10
  · rw [dif_pos h1, if_pos (by omega), Nat.mod_eq_of_lt h1]
    rfl
  · rw [dif_neg h1, if_neg (by omega)]
theorem itoa_dz {n : Int} (h : n ≠ 0) : Lib.itoa n = if n < 0 then 45 :: dz n.natAbs else dz n.natAbs := by
  unfold Lib.itoa dz
  rw [if_neg (show ¬ n.natAbs = 0 by omega)]
  split
  · rfl
  · rw [show n.toNat = n.natAbs by omega]
theorem itoa_zero : Lib.itoa 0 = [48] := by
  unfold Lib.itoa
  rw [if_neg (by omega), Lib.decDigits, dif_pos (by decide)]
  rfl
theorem conv_one (w : World) (z : Int) (hz : 0 ≤ z ∧ z ≤ 255) (b : Nat) (h : w.cell? ⟨b, 0, none⟩ = some (.int .u8 z)) (hl : b < w.heap.size) :
    (convert 97 9 (.slice (some ⟨b, 0, none⟩) 1 1)).run Tryz.prog w = .ok (.string ⟨#[UInt8.ofNat z.toNat]⟩) w := by
  have := run_convert_bytes_arg (P := Tryz.prog) w 97 5 Tryz.underlying97 Tryz.underlying5 b 0 1 1 [z] rfl (fun i hi => by
    obtain rfl : i = 0 := by omega
    exact h) 9 Tryz.underlying9
  rw [this]
  rfl
theorem dz_len {n : Int} (hn : OkI n) : (dz n.natAbs).length ≤ 21 := by
  by_cases h : n = 0
  · subst h; simp [dz]
  · have := Lib.itoa_length_le n hn.1 hn.2
    rw [itoa_dz h] at this
    split at this
    · simp only [List.length_cons] at this; omega
    · exact this
theorem cat_dig (c : UInt8) (l : List UInt8) : (⟨#[c]⟩ : ByteArray) ++ ⟨l.toArray⟩ = ⟨(c :: l).toArray⟩ := by
  apply Go.WideShapes.bytes_inj
  simp
theorem cat_neg (l : List UInt8) : (⟨#[45]⟩ : ByteArray) ++ ⟨l.toArray⟩ = ⟨(45 :: l).toArray⟩ := cat_dig 45 l
theorem lsize (l : List UInt8) : (⟨l.toArray⟩ : ByteArray).size = l.length := by simp [ByteArray.size]
set_option maxRecDepth 100000 in
set_option maxHeartbeats 2000000 in
theorem decimal_any {n : Int} (hn : OkI n) (w : World) : Calls Tryz.prog 60 #[.int .i64 n] w fun e w' => e = .returned (.string (itoaS n)) ∧ Ext w w' := by
  by_cases h0 : n = 0
  · subst h0
    have hi : itoaS 0 = ⟨#[48]⟩ := by unfold itoaS; rw [itoa_zero]
    rw [hi]
    go_enter Tryz.func60, Tryz.ntmps60
    go_wp2_with (fail)
    go_ret
    exact ⟨rfl, Ext.refl _⟩
  · have HI : Hid (Lib.itoa n = if n < 0 then 45 :: dz n.natAbs else dz n.natAbs) := Lib.hid (itoa_dz h0)
    have HL : Hid ((dz n.natAbs).length ≤ 21) := Lib.hid (dz_len hn)
    obtain ⟨U, hU⟩ : ∃ U, U = n.natAbs := ⟨_, rfl⟩
    rw [← hU] at HI HL
    obtain ⟨hn1, hn2⟩ := hn
    go_enter Tryz.func60, Tryz.ntmps60
    by_cases hneg : n < 0
    · obtain rfl : n = -(U : Int) := by omega
      clear hU
      go_upto_region 5 with (fail)
      go_loopw [3, 4] (fun s m wr => ∃ (u : Nat) (l : List UInt8), s = .string ⟨l.toArray⟩ ∧ m = .int .i64 (-(u : Int)) ∧ u ≤ U ∧ Hid (dz U = dz u ++ l) ∧ Ext w wr) (fun _ m _ => (iof m).natAbs)
      case atStart => exact ⟨U, [], rfl, rfl, Nat.le_refl _, Lib.hid (by simp), Ext.refl _⟩
      case round =>
        obtain ⟨u, l, rfl, rfl, hu, HD, hx⟩ := hrel
        have hl21 : l.length ≤ 21 := by
          have h1 := HL.out
          rw [HD.out, List.length_append] at h1
          omega
        have hls := lsize l
        by_cases hz : u = 0
        · subst hz
          have HR : Hid (itoaS (-(U : Int)) = (⟨#[45]⟩ : ByteArray) ++ ⟨l.toArray⟩) := Lib.hid (by
            unfold itoaS
            rw [HI.out, if_pos hneg, HD.out, cat_neg]
            rfl)
          clear HD
          go_wp2_with (fail)
          go_ret
          exact ⟨by rw [HR.out]; rfl, hx⟩
        · have hmod : (-(u : Int)).tmod 10 = -((u % 10 : Nat) : Int) := by rw [Int.neg_tmod, Int.tmod_eq_emod_of_nonneg (by omega)]; omega
          have hdiv : (-(u : Int)).tdiv 10 = -((u / 10 : Nat) : Int) := by rw [Int.neg_tdiv, Int.tdiv_eq_ediv_of_nonneg (by omega)]; omega
          have hnz : ¬ (-(u : Int)) = 0 := by omega
          have HD2 : Hid (dz U = dz (u / 10) ++ (UInt8.ofNat (48 + u % 10) :: l)) := Lib.hid (by rw [HD.out, dz_step hz]; simp)
          have hd9 : u % 10 ≤ 9 := by omega
          have hq : u / 10 < u := by omega
          obtain ⟨d, hd⟩ : ∃ d, d = u % 10 := ⟨_, rfl⟩
          obtain ⟨v, hv⟩ : ∃ v, v = u / 10 := ⟨_, rfl⟩
          rw [← hd] at hmod HD2 hd9
          rw [← hv] at hdiv HD2 hq
          clear hd hv
          have kw8 : IntKind.u8.wrap (48 + (d : Int)) = 48 + (d : Int) := by
            unfold IntKind.wrap
            simp [IntKind.signed, IntKind.bits]
            omega
          have hcv : (convert 97 9 (.slice (some ⟨wr.heap.size, 0, none⟩) 1 1)).run Tryz.prog (wr.alloc (.cells #[.int .u8 (48 + (d : Int))] 5)) = .ok (.string ⟨#[UInt8.ofNat (48 + d)]⟩) (wr.alloc (.cells #[.int .u8 (48 + (d : Int))] 5)) := by
            have := conv_one (wr.alloc (.cells #[.int .u8 (48 + (d : Int))] 5)) (48 + (d : Int)) (by omega) wr.heap.size (cell_of_row _ _ 0 _ _ _ (heap_alloc_new wr _)) (by simp)
            rw [show (48 + (d : Int)).toNat = 48 + d by omega] at this
            exact this
          have HX := Lib.hid (Ext.alloc hx (.cells #[.int .u8 (48 + (d : Int))] 5))
          by_cases hd0 : d = 0
          · subst hd0
            have hmod0 : (-(u : Int)).tmod 10 = 0 := by rw [hmod]; rfl
            have hcv0 : (convert 97 9 (.slice (some ⟨wr.heap.size, 0, none⟩) 1 1)).run Tryz.prog (wr.alloc (.cells #[.int .u8 48] 5)) = .ok (.string ⟨#[48]⟩) (wr.alloc (.cells #[.int .u8 48] 5)) := conv_one _ 48 (by omega) wr.heap.size (cell_of_row _ _ 0 _ _ _ (heap_alloc_new wr _)) (by simp)
            have HX0 := Lib.hid (Ext.alloc hx (.cells #[.int .u8 48] 5))
            clear hmod hcv
            go_wp2_with (fail)
            exact ⟨⟨v, 48 :: l, congrArg Value.string (cat_dig 48 l), rfl, by omega, HD2, HX0.out⟩, by simp [iof]; omega⟩
          · have hdn : -(d : Int) < 0 := by omega
            go_wp2_with (fail)
            exact ⟨⟨v, UInt8.ofNat (48 + d) :: l, by rw [show (48 + UInt8.ofNat d) = UInt8.ofNat (48 + d) by simp, cat_dig], rfl, by omega, HD2, HX.out⟩, by simp [iof]; omega⟩
    · obtain rfl : n = (U : Int) := by omega
      clear hU
      go_upto_region 5 with (fail)
      go_loopw [3, 4] (fun s m wr => ∃ (u : Nat) (l : List UInt8), s = .string ⟨l.toArray⟩ ∧ m = .int .i64 (u : Int) ∧ u ≤ U ∧ Hid (dz U = dz u ++ l) ∧ Ext w wr) (fun _ m _ => (iof m).natAbs)
      case atStart => exact ⟨U, [], rfl, rfl, Nat.le_refl _, Lib.hid (by simp), Ext.refl _⟩
      case round =>
        obtain ⟨u, l, rfl, rfl, hu, HD, hx⟩ := hrel
        have hl21 : l.length ≤ 21 := by
          have h1 := HL.out
          rw [HD.out, List.length_append] at h1
          omega
        have hls := lsize l
        by_cases hz : u = 0
        · subst hz
          have HR : Hid (itoaS (U : Int) = ⟨l.toArray⟩) := Lib.hid (by
            unfold itoaS
            rw [HI.out, if_neg (by omega), HD.out]
            rfl)
          clear HD
          go_wp2_with (fail)
          go_ret
          exact ⟨by rw [HR.out]; rfl, hx⟩
        · have hmod : (u : Int).tmod 10 = ((u % 10 : Nat) : Int) := by rw [Int.tmod_eq_emod_of_nonneg (by omega)]; omega
          have hdiv : (u : Int).tdiv 10 = ((u / 10 : Nat) : Int) := by rw [Int.tdiv_eq_ediv_of_nonneg (by omega)]; omega
          have hnz : ¬ (u : Int) = 0 := by omega
          have HD2 : Hid (dz U = dz (u / 10) ++ (UInt8.ofNat (48 + u % 10) :: l)) := Lib.hid (by rw [HD.out, dz_step hz]; simp)
          have hd9 : u % 10 ≤ 9 := by omega
          have hq : u / 10 < u := by omega
          obtain ⟨d, hd⟩ : ∃ d, d = u % 10 := ⟨_, rfl⟩
          obtain ⟨v, hv⟩ : ∃ v, v = u / 10 := ⟨_, rfl⟩
          rw [← hd] at hmod HD2 hd9
          rw [← hv] at hdiv HD2 hq
          clear hd hv
          have kw8 : IntKind.u8.wrap (48 + (d : Int)) = 48 + (d : Int) := by
            unfold IntKind.wrap
            simp [IntKind.signed, IntKind.bits]
            omega
          have hcv : (convert 97 9 (.slice (some ⟨wr.heap.size, 0, none⟩) 1 1)).run Tryz.prog (wr.alloc (.cells #[.int .u8 (48 + (d : Int))] 5)) = .ok (.string ⟨#[UInt8.ofNat (48 + d)]⟩) (wr.alloc (.cells #[.int .u8 (48 + (d : Int))] 5)) := by
            have := conv_one (wr.alloc (.cells #[.int .u8 (48 + (d : Int))] 5)) (48 + (d : Int)) (by omega) wr.heap.size (cell_of_row _ _ 0 _ _ _ (heap_alloc_new wr _)) (by simp)
            rw [show (48 + (d : Int)).toNat = 48 + d by omega] at this
            exact this
          have HX := Lib.hid (Ext.alloc hx (.cells #[.int .u8 (48 + (d : Int))] 5))
          have hdn : ¬ (d : Int) < 0 := by omega
          go_wp2_with (fail)
          exact ⟨⟨v, UInt8.ofNat (48 + d) :: l, by rw [show (48 + UInt8.ofNat d) = UInt8.ofNat (48 + d) by simp, cat_dig], rfl, by omega, HD2, HX.out⟩, by simp [iof]; omega⟩
end Go.Proofs.YtnplnfkmcfalhaaGreatDoor
namespace Go.Proofs.YtnplnfkmcfalhaaGreatDoor
set_option linter.unusedVariables false
set_option linter.unusedSimpArgs false
open Go.RowKit Go.Sort Go.Shelf

theorem line_cat (word s1 s2 g3 s0 s4 s5 : ByteArray) : (⟨(Lib.join ([word, s1, s2, g3, s0, s4, s5].map (·.data.toList)) [32]).toArray⟩ : ByteArray) ++ ⟨#[10]⟩ = ((((((((((((word ++ ⟨#[32]⟩) ++ s1) ++ ⟨#[32]⟩) ++ s2) ++ ⟨#[32]⟩) ++ g3) ++ ⟨#[32]⟩) ++ s0) ++ ⟨#[32]⟩) ++ s4) ++ ⟨#[32]⟩) ++ s5) ++ ⟨#[10]⟩ := by
  apply Go.WideShapes.bytes_inj
  simp [Lib.join, List.intercalate, List.intersperse]
section
variable {ρ : Operand → Value} {d : Option Tmp} {x y : Operand} {ty : TypeId} {ps : String} {af : Array Edge} {gd : Option (Nat × Bool)} {w : World}
theorem up_cat {a b : ByteArray} (hx : ρ x = .string a) (hy : ρ y = .string b) (h : a.size + b.size ≤ 3000) :
    Rg.up Tryz.prog w (.string (a ++ b)) ((execOp ρ { dst := d, op := .binOp .add 9 x y 9, type := ty, pos := ps, after := af, guard := gd }).run Tryz.prog w) := by
  have hn : ¬ 9223372036854775807 < a.size + b.size := by omega
  simp only [execOp, hx, hy]
  go_simp
  exact Rg.up_value
end
set_option maxRecDepth 100000 in
set_option maxHeartbeats 4000000 in
theorem refLine_any (word : ByteArray) (g : Gd) (hw : word.size ≤ 100) (hg : g.ok) (hs : g.name.size ≤ 1000) (w : World) :
    Calls Tryz.prog 59 #[.string word, g.v] w fun e w' => e = .returned (.string (lineS word g)) ∧ Ext w w' := by
  have H1 := Lib.hid (fun W => decimal_any hg.2.1 W)
  have H2 := Lib.hid (fun W => decimal_any hg.2.2.1 W)
  have H3 := Lib.hid (fun W => decimal_any hg.1 W)
  have H4 := Lib.hid (fun W => decimal_any hg.2.2.2.2.1 W)
  have H5 := Lib.hid (fun W => decimal_any hg.2.2.2.2.2 W)
  have z1 := itoaS_size hg.2.1
  have z2 := itoaS_size hg.2.2.1
  have z0 := itoaS_size hg.1
  have z4 := itoaS_size hg.2.2.2.2.1
  have z5 := itoaS_size hg.2.2.2.2.2
  have HR : Hid (lineS word g = _) := Lib.hid (line_cat word (itoaS g.bid) (itoaS g.lot) g.name (itoaS g.ass) (itoaS g.n) (itoaS g.tm))
  have hz32 : (⟨#[32]⟩ : ByteArray).size = 1 := rfl
  have hz10 : (⟨#[10]⟩ : ByteArray).size = 1 := rfl
  clear hg
  generalize lineS word g = ls at *
  obtain ⟨g0, g1, g2, g3, g4, g5⟩ := g
  simp only at HR H1 H2 H3 H4 H5 hs z0 z1 z2 z4 z5
  generalize itoaS g1 = s1 at *
  generalize itoaS g2 = s2 at *
  generalize itoaS g0 = s0 at *
  generalize itoaS g4 = s4 at *
  generalize itoaS g5 = s5 at *
  unfold Gd.v
  simp only
  go_enter Tryz.func59, Tryz.ntmps59
  go_upto_region 1 with (fail)
  have hx1 : Ext w (w.alloc (.cells #[.int .i64 g0, .int .i64 g1, .int .i64 g2, .string g3, .int .i64 g4, .int .i64 g5] 23)) := Ext.alloc (Ext.refl _) _
  have hq := heap_alloc_new w (.cells #[.int .i64 g0, .int .i64 g1, .int .i64 g2, .string g3, .int .i64 g4, .int .i64 g5] 23)
  generalize (w.alloc (.cells #[.int .i64 g0, .int .i64 g1, .int .i64 g2, .string g3, .int .i64 g4, .int .i64 g5] 23)) = W1 at *
  obtain ⟨px, hpx⟩ : ∃ px, px = w.heap.size := ⟨_, rfl⟩
  rw [← hpx] at hq ⊢
  have q0 := cell_of_row W1 px 0 _ _ _ hq
  have q1 := cell_of_row W1 px 1 _ _ _ hq
  have q2 := cell_of_row W1 px 2 _ _ _ hq
  have q3 := cell_of_row W1 px 3 _ _ _ hq
  have q4 := cell_of_row W1 px 4 _ _ _ hq
  have q5 := cell_of_row W1 px 5 _ _ _ hq
  have ql := (Array.getElem?_eq_some_iff.1 hq).1
  have HX := Lib.hid hx1
  clear hq hx1 hpx
  refine Rr.wp_region ((List.range 31).map (fun i => (i, .y))) (fun _ => (.cells #[] 29, Rg.ptr)) (by kernel_rfl) (by kernel_rfl) ?_
  simp only [List.range, List.range.loop, List.map_cons, List.map_nil]
  (refine Rr.wr_y (by simp only [List.getElem?_toArray, List.getElem?_cons_succ, List.getElem?_cons_zero]; rfl) (by rfl) ?_
   apply Exists.intro
   refine ⟨fun wz hw _ => ?_, ?_⟩
   · have hcz := hw.cells.1
     go_simp
     (with_reducible exact Rg.up_value)
   simp only [Act.put, List.setIfInBounds_toArray, List.set_cons_zero, List.set_cons_succ])
  (refine Rr.wr_y (by simp only [List.getElem?_toArray, List.getElem?_cons_succ, List.getElem?_cons_zero]; rfl) (by rfl) ?_
   apply Exists.intro
   refine ⟨fun wz hw _ => ?_, ?_⟩
   · exact up_cat (by rfl) (by rfl) (by simp only [ByteArray.size_append, hz32, hz10]; omega)
   simp only [Act.put, List.setIfInBounds_toArray, List.set_cons_zero, List.set_cons_succ])
  (refine Rr.wr_y (by simp only [List.getElem?_toArray, List.getElem?_cons_succ, List.getElem?_cons_zero]; rfl) (by rfl) ?_
   apply Exists.intro
   refine ⟨fun wz hw _ => ?_, ?_⟩
   · have hcz := hw.cells.1
     go_simp
     (with_reducible exact Rg.up_value)
   simp only [Act.put, List.setIfInBounds_toArray, List.set_cons_zero, List.set_cons_succ])
  (refine Rr.wr_y (by simp only [List.getElem?_toArray, List.getElem?_cons_succ, List.getElem?_cons_zero]; rfl) (by rfl) ?_
   apply Exists.intro
   refine ⟨fun wz hw _ => ?_, ?_⟩
   · have hcz := hw.cells.1
     go_simp
     (with_reducible exact Rg.up_value)
   simp only [Act.put, List.setIfInBounds_toArray, List.set_cons_zero, List.set_cons_succ])
  (refine Rr.wr_y (by simp only [List.getElem?_toArray, List.getElem?_cons_succ, List.getElem?_cons_zero]; rfl) (by rfl) ?_
   apply Exists.intro
   refine ⟨fun wz hw _ => ?_, ?_⟩
   · have hcz := hw.cells.1
     go_simp
     apply Rg.up_enter
     (with_reducible refine (H1.out _).mono ?_)
     rintro e w3 ⟨rfl, hb3⟩
     exact ⟨rfl, hb3⟩
   simp only [Act.put, List.setIfInBounds_toArray, List.set_cons_zero, List.set_cons_succ])
  (refine Rr.wr_y (by simp only [List.getElem?_toArray, List.getElem?_cons_succ, List.getElem?_cons_zero]; rfl) (by rfl) ?_
   apply Exists.intro
   refine ⟨fun wz hw _ => ?_, ?_⟩
   · exact up_cat (by rfl) (by rfl) (by simp only [ByteArray.size_append, hz32, hz10]; omega)
   simp only [Act.put, List.setIfInBounds_toArray, List.set_cons_zero, List.set_cons_succ])
  (refine Rr.wr_y (by simp only [List.getElem?_toArray, List.getElem?_cons_succ, List.getElem?_cons_zero]; rfl) (by rfl) ?_
   apply Exists.intro
   refine ⟨fun wz hw _ => ?_, ?_⟩
   · exact up_cat (by rfl) (by rfl) (by simp only [ByteArray.size_append, hz32, hz10]; omega)
   simp only [Act.put, List.setIfInBounds_toArray, List.set_cons_zero, List.set_cons_succ])
  (refine Rr.wr_y (by simp only [List.getElem?_toArray, List.getElem?_cons_succ, List.getElem?_cons_zero]; rfl) (by rfl) ?_
   apply Exists.intro
   refine ⟨fun wz hw _ => ?_, ?_⟩
   · have hcz := hw.cells.1
     go_simp
     (with_reducible exact Rg.up_value)
   simp only [Act.put, List.setIfInBounds_toArray, List.set_cons_zero, List.set_cons_succ])
  (refine Rr.wr_y (by simp only [List.getElem?_toArray, List.getElem?_cons_succ, List.getElem?_cons_zero]; rfl) (by rfl) ?_
   apply Exists.intro
   refine ⟨fun wz hw _ => ?_, ?_⟩
   · have hcz := hw.cells.1
     go_simp
     (with_reducible exact Rg.up_value)
   simp only [Act.put, List.setIfInBounds_toArray, List.set_cons_zero, List.set_cons_succ])
  (refine Rr.wr_y (by simp only [List.getElem?_toArray, List.getElem?_cons_succ, List.getElem?_cons_zero]; rfl) (by rfl) ?_
   apply Exists.intro
   refine ⟨fun wz hw _ => ?_, ?_⟩
   · have hcz := hw.cells.1
     go_simp
     apply Rg.up_enter
     (with_reducible refine (H2.out _).mono ?_)
     rintro e w3 ⟨rfl, hb3⟩
     exact ⟨rfl, hb3⟩
   simp only [Act.put, List.setIfInBounds_toArray, List.set_cons_zero, List.set_cons_succ])
  (refine Rr.wr_y (by simp only [List.getElem?_toArray, List.getElem?_cons_succ, List.getElem?_cons_zero]; rfl) (by rfl) ?_
   apply Exists.intro
   refine ⟨fun wz hw _ => ?_, ?_⟩
   · exact up_cat (by rfl) (by rfl) (by simp only [ByteArray.size_append, hz32, hz10]; omega)
   simp only [Act.put, List.setIfInBounds_toArray, List.set_cons_zero, List.set_cons_succ])
  (refine Rr.wr_y (by simp only [List.getElem?_toArray, List.getElem?_cons_succ, List.getElem?_cons_zero]; rfl) (by rfl) ?_
   apply Exists.intro
   refine ⟨fun wz hw _ => ?_, ?_⟩
   · exact up_cat (by rfl) (by rfl) (by simp only [ByteArray.size_append, hz32, hz10]; omega)
   simp only [Act.put, List.setIfInBounds_toArray, List.set_cons_zero, List.set_cons_succ])
  (refine Rr.wr_y (by simp only [List.getElem?_toArray, List.getElem?_cons_succ, List.getElem?_cons_zero]; rfl) (by rfl) ?_
   apply Exists.intro
   refine ⟨fun wz hw _ => ?_, ?_⟩
   · have hcz := hw.cells.1
     go_simp
     (with_reducible exact Rg.up_value)
   simp only [Act.put, List.setIfInBounds_toArray, List.set_cons_zero, List.set_cons_succ])
  (refine Rr.wr_y (by simp only [List.getElem?_toArray, List.getElem?_cons_succ, List.getElem?_cons_zero]; rfl) (by rfl) ?_
   apply Exists.intro
   refine ⟨fun wz hw _ => ?_, ?_⟩
   · have hcz := hw.cells.1
     go_simp
     (with_reducible exact Rg.up_value)
   simp only [Act.put, List.setIfInBounds_toArray, List.set_cons_zero, List.set_cons_succ])
  (refine Rr.wr_y (by simp only [List.getElem?_toArray, List.getElem?_cons_succ, List.getElem?_cons_zero]; rfl) (by rfl) ?_
   apply Exists.intro
   refine ⟨fun wz hw _ => ?_, ?_⟩
   · exact up_cat (by rfl) (by rfl) (by simp only [ByteArray.size_append, hz32, hz10]; omega)
   simp only [Act.put, List.setIfInBounds_toArray, List.set_cons_zero, List.set_cons_succ])
  (refine Rr.wr_y (by simp only [List.getElem?_toArray, List.getElem?_cons_succ, List.getElem?_cons_zero]; rfl) (by rfl) ?_
   apply Exists.intro
   refine ⟨fun wz hw _ => ?_, ?_⟩
   · exact up_cat (by rfl) (by rfl) (by simp only [ByteArray.size_append, hz32, hz10]; omega)
   simp only [Act.put, List.setIfInBounds_toArray, List.set_cons_zero, List.set_cons_succ])
  (refine Rr.wr_y (by simp only [List.getElem?_toArray, List.getElem?_cons_succ, List.getElem?_cons_zero]; rfl) (by rfl) ?_
   apply Exists.intro
   refine ⟨fun wz hw _ => ?_, ?_⟩
   · have hcz := hw.cells.1
     go_simp
     (with_reducible exact Rg.up_value)
   simp only [Act.put, List.setIfInBounds_toArray, List.set_cons_zero, List.set_cons_succ])
  (refine Rr.wr_y (by simp only [List.getElem?_toArray, List.getElem?_cons_succ, List.getElem?_cons_zero]; rfl) (by rfl) ?_
   apply Exists.intro
   refine ⟨fun wz hw _ => ?_, ?_⟩
   · have hcz := hw.cells.1
     go_simp
     (with_reducible exact Rg.up_value)
   simp only [Act.put, List.setIfInBounds_toArray, List.set_cons_zero, List.set_cons_succ])
  (refine Rr.wr_y (by simp only [List.getElem?_toArray, List.getElem?_cons_succ, List.getElem?_cons_zero]; rfl) (by rfl) ?_
   apply Exists.intro
   refine ⟨fun wz hw _ => ?_, ?_⟩
   · have hcz := hw.cells.1
     go_simp
     apply Rg.up_enter
     (with_reducible refine (H3.out _).mono ?_)
     rintro e w3 ⟨rfl, hb3⟩
     exact ⟨rfl, hb3⟩
   simp only [Act.put, List.setIfInBounds_toArray, List.set_cons_zero, List.set_cons_succ])
  (refine Rr.wr_y (by simp only [List.getElem?_toArray, List.getElem?_cons_succ, List.getElem?_cons_zero]; rfl) (by rfl) ?_
   apply Exists.intro
   refine ⟨fun wz hw _ => ?_, ?_⟩
   · exact up_cat (by rfl) (by rfl) (by simp only [ByteArray.size_append, hz32, hz10]; omega)
   simp only [Act.put, List.setIfInBounds_toArray, List.set_cons_zero, List.set_cons_succ])
  (refine Rr.wr_y (by simp only [List.getElem?_toArray, List.getElem?_cons_succ, List.getElem?_cons_zero]; rfl) (by rfl) ?_
   apply Exists.intro
   refine ⟨fun wz hw _ => ?_, ?_⟩
   · exact up_cat (by rfl) (by rfl) (by simp only [ByteArray.size_append, hz32, hz10]; omega)
   simp only [Act.put, List.setIfInBounds_toArray, List.set_cons_zero, List.set_cons_succ])
  (refine Rr.wr_y (by simp only [List.getElem?_toArray, List.getElem?_cons_succ, List.getElem?_cons_zero]; rfl) (by rfl) ?_
   apply Exists.intro
   refine ⟨fun wz hw _ => ?_, ?_⟩
   · have hcz := hw.cells.1
     go_simp
     (with_reducible exact Rg.up_value)
   simp only [Act.put, List.setIfInBounds_toArray, List.set_cons_zero, List.set_cons_succ])
  (refine Rr.wr_y (by simp only [List.getElem?_toArray, List.getElem?_cons_succ, List.getElem?_cons_zero]; rfl) (by rfl) ?_
   apply Exists.intro
   refine ⟨fun wz hw _ => ?_, ?_⟩
   · have hcz := hw.cells.1
     go_simp
     (with_reducible exact Rg.up_value)
   simp only [Act.put, List.setIfInBounds_toArray, List.set_cons_zero, List.set_cons_succ])
  (refine Rr.wr_y (by simp only [List.getElem?_toArray, List.getElem?_cons_succ, List.getElem?_cons_zero]; rfl) (by rfl) ?_
   apply Exists.intro
   refine ⟨fun wz hw _ => ?_, ?_⟩
   · have hcz := hw.cells.1
     go_simp
     apply Rg.up_enter
     (with_reducible refine (H4.out _).mono ?_)
     rintro e w3 ⟨rfl, hb3⟩
     exact ⟨rfl, hb3⟩
   simp only [Act.put, List.setIfInBounds_toArray, List.set_cons_zero, List.set_cons_succ])
  (refine Rr.wr_y (by simp only [List.getElem?_toArray, List.getElem?_cons_succ, List.getElem?_cons_zero]; rfl) (by rfl) ?_
   apply Exists.intro
   refine ⟨fun wz hw _ => ?_, ?_⟩
   · exact up_cat (by rfl) (by rfl) (by simp only [ByteArray.size_append, hz32, hz10]; omega)
   simp only [Act.put, List.setIfInBounds_toArray, List.set_cons_zero, List.set_cons_succ])
  (refine Rr.wr_y (by simp only [List.getElem?_toArray, List.getElem?_cons_succ, List.getElem?_cons_zero]; rfl) (by rfl) ?_
   apply Exists.intro
   refine ⟨fun wz hw _ => ?_, ?_⟩
   · exact up_cat (by rfl) (by rfl) (by simp only [ByteArray.size_append, hz32, hz10]; omega)
   simp only [Act.put, List.setIfInBounds_toArray, List.set_cons_zero, List.set_cons_succ])
  (refine Rr.wr_y (by simp only [List.getElem?_toArray, List.getElem?_cons_succ, List.getElem?_cons_zero]; rfl) (by rfl) ?_
   apply Exists.intro
   refine ⟨fun wz hw _ => ?_, ?_⟩
   · have hcz := hw.cells.1
     go_simp
     (with_reducible exact Rg.up_value)
   simp only [Act.put, List.setIfInBounds_toArray, List.set_cons_zero, List.set_cons_succ])
  (refine Rr.wr_y (by simp only [List.getElem?_toArray, List.getElem?_cons_succ, List.getElem?_cons_zero]; rfl) (by rfl) ?_
   apply Exists.intro
   refine ⟨fun wz hw _ => ?_, ?_⟩
   · have hcz := hw.cells.1
     go_simp
     (with_reducible exact Rg.up_value)
   simp only [Act.put, List.setIfInBounds_toArray, List.set_cons_zero, List.set_cons_succ])
  (refine Rr.wr_y (by simp only [List.getElem?_toArray, List.getElem?_cons_succ, List.getElem?_cons_zero]; rfl) (by rfl) ?_
   apply Exists.intro
   refine ⟨fun wz hw _ => ?_, ?_⟩
   · have hcz := hw.cells.1
     go_simp
     apply Rg.up_enter
     (with_reducible refine (H5.out _).mono ?_)
     rintro e w3 ⟨rfl, hb3⟩
     exact ⟨rfl, hb3⟩
   simp only [Act.put, List.setIfInBounds_toArray, List.set_cons_zero, List.set_cons_succ])
  (refine Rr.wr_y (by simp only [List.getElem?_toArray, List.getElem?_cons_succ, List.getElem?_cons_zero]; rfl) (by rfl) ?_
   apply Exists.intro
   refine ⟨fun wz hw _ => ?_, ?_⟩
   · exact up_cat (by rfl) (by rfl) (by simp only [ByteArray.size_append, hz32, hz10]; omega)
   simp only [Act.put, List.setIfInBounds_toArray, List.set_cons_zero, List.set_cons_succ])
  (refine Rr.wr_y (by simp only [List.getElem?_toArray, List.getElem?_cons_succ, List.getElem?_cons_zero]; rfl) (by rfl) ?_
   apply Exists.intro
   refine ⟨fun wz hw _ => ?_, ?_⟩
   · exact up_cat (by rfl) (by rfl) (by simp only [ByteArray.size_append, hz32, hz10]; omega)
   simp only [Act.put, List.setIfInBounds_toArray, List.set_cons_zero, List.set_cons_succ])
  refine Rr.wr_nil ?_
  intro wy hy hh
  simp only [List.length_cons, List.length_nil, List.drop_succ_cons, List.drop_zero, Nat.reduceAdd]
  clear hh
  go_wp2_with (fail)
  go_ret
  exact ⟨by rw [HR.out]; rfl, HX.out.trans hy⟩
end Go.Proofs.YtnplnfkmcfalhaaGreatDoor
namespace Go.Proofs.YtnplnfkmcfalhaaGreatDoor
set_option linter.unusedVariables false
set_option linter.unusedSimpArgs false
open Go.RowKit Go.Sort Go.Shelf

def bef (a b : Gd) : Bool := if a.bid = b.bid then (if a.lot = b.lot then (if a.name = b.name then decide (a.ass < b.ass) else Op.bytesLess a.name.toList b.name.toList) else decide (a.lot < b.lot)) else decide (a.bid < b.bid)
theorem cmpI_lt (x y : Int) : (Lib.compareInt x y = 0 ↔ x = y) ∧ (Lib.compareInt x y < 0 ↔ x < y) := by
  unfold Lib.compareInt
  split
  · constructor <;> omega
  · split <;> constructor <;> omega
set_option maxRecDepth 100000 in
set_option maxHeartbeats 2000000 in
theorem before_any (a b : Gd) (w : World) : Calls Tryz.prog 58 #[a.v, b.v] w fun e w' => e = .returned (.bool (bef a b)) ∧ Ext w w' := by
  obtain ⟨a0, a1, a2, a3, a4, a5⟩ := a
  obtain ⟨b0, b1, b2, b3, b4, b5⟩ := b
  have HB : Hid (bef ⟨a0, a1, a2, a3, a4, a5⟩ ⟨b0, b1, b2, b3, b4, b5⟩ = if a1 = b1 then (if a2 = b2 then (if a3 = b3 then decide (a0 < b0) else Op.bytesLess a3.toList b3.toList) else decide (a2 < b2)) else decide (a1 < b1)) := Lib.hid rfl
  generalize bef ⟨a0, a1, a2, a3, a4, a5⟩ ⟨b0, b1, b2, b3, b4, b5⟩ = r at *
  unfold Gd.v
  simp only
  go_enter Tryz.func58, Tryz.ntmps58
  go_upto_region 1 with (fail)
  have hx1 : Ext w ((w.alloc (.cells #[.int .i64 a0, .int .i64 a1, .int .i64 a2, .string a3, .int .i64 a4, .int .i64 a5] 23)).alloc (.cells #[.int .i64 b0, .int .i64 b1, .int .i64 b2, .string b3, .int .i64 b4, .int .i64 b5] 23)) := Ext.alloc (Ext.alloc (Ext.refl _) _) _
  by_cases h1 : a1 = b1
  · subst h1
    by_cases h2 : a2 = b2
    · subst h2
      by_cases h3 : a3 = b3
      · subst h3
        have HR : Hid (r = decide (a0 < b0)) := Lib.hid (by rw [HB.out]; simp)
        clear HB
        go_wp2_with (fail)
        go_ret
        exact ⟨by rw [HR.out]; rfl, hx1⟩
      · have HR : Hid (r = Op.bytesLess a3.toList b3.toList) := Lib.hid (by rw [HB.out]; simp [h3])
        have h4 : (a3.toList == b3.toList) = false := by
          rw [beq_eq_false_iff_ne]
          intro e
          rw [ByteArray.toList_eq, ByteArray.toList_eq] at e
          exact h3 (Go.WideShapes.bytes_inj e)
        clear HB h3
        go_wp2_with (fail)
        go_ret
        exact ⟨by rw [HR.out]; rfl, hx1⟩
    · have HR : Hid (r = decide (a2 < b2)) := Lib.hid (by rw [HB.out]; simp [h2])
      clear HB
      go_wp2_with (fail)
      go_ret
      exact ⟨by rw [HR.out]; rfl, hx1⟩
  · have HR : Hid (r = decide (a1 < b1)) := Lib.hid (by rw [HB.out]; simp [h1])
    clear HB
    go_wp2_with (fail)
    go_ret
    exact ⟨by rw [HR.out]; rfl, hx1⟩
theorem cmpS_self {x y : ByteArray} : cmpS x y = 0 ↔ x = y := by
  constructor
  · intro h
    refine gcS.total x y ?_ ?_
    · unfold ltOf; rw [h]; rfl
    · unfold ltOf
      have := gcS.anti x y
      rw [show cmpS y x = 0 by omega]
      rfl
  · rintro rfl
    exact gcS.self x
theorem cmpS_lt {x y : ByteArray} : ltOf cmpS x y = Op.bytesLess x.toList y.toList := by
  unfold ltOf cmpS
  split
  · rename_i h; rw [h]; decide
  · rename_i h
    split
    · simp at h; rw [h]; decide
    · simp at h; rw [h]; decide
theorem bef_lt (a b : Gd) : bef a b = ltOf cmpPl a.pl b.pl := by
  unfold ltOf
  rw [cmpPl_lex]
  unfold lexC bef Gd.pl
  simp only
  have hb := cmpI_lt a.bid b.bid
  have hl := cmpI_lt a.lot b.lot
  have ha := cmpI_lt a.ass b.ass
  by_cases h1 : a.bid = b.bid
  · rw [if_pos h1, if_pos (hb.1.2 h1)]
    by_cases h2 : a.lot = b.lot
    · rw [if_pos h2, if_pos (hl.1.2 h2)]
      by_cases h3 : a.name = b.name
      · rw [if_pos h3, if_pos (cmpS_self.2 h3)]
        exact decide_eq_decide.2 ha.2.symm
      · rw [if_neg h3, if_neg (fun e => h3 (cmpS_self.1 e))]
        exact cmpS_lt.symm
    · rw [if_neg h2, if_neg (fun e => h2 (hl.1.1 e))]
      exact decide_eq_decide.2 hl.2.symm
  · rw [if_neg h1, if_neg (fun e => h1 (hb.1.1 e))]
    exact decide_eq_decide.2 hb.2.symm
end Go.Proofs.YtnplnfkmcfalhaaGreatDoor
namespace Go.Proofs.YtnplnfkmcfalhaaGreatDoor
set_option linter.unusedVariables false
set_option linter.unusedSimpArgs false
open Go.RowKit

/-- The reference's book at p. -/
def RW (B : Nat) (w : World) (p : Nat) (L : List Int) (C : List Cr) (D : List Dy) (G : List Gd) (N : List Int) (O : List Gd) : Prop :=
  ∃ vl vc vd vg vn vo, B ≤ p ∧ w.heap[p]? = some (.cells #[vl, vc, vd, vg, vn, vo] 80) ∧ w.ownsRow B 3 1 vl L.length (L.flatMap celI) ∧ w.ownsRow B 73 5 vc C.length (C.flatMap Cr.cs) ∧ w.ownsRow B 57 2 vd D.length (D.flatMap Dy.cs) ∧
    w.ownsRow B 23 6 vg G.length (G.flatMap Gd.cs) ∧ w.ownsRow B 3 1 vn N.length (N.flatMap celI) ∧ w.ownsRow B 23 6 vo O.length (O.flatMap Gd.cs) ∧ (∀ k, vg.ownBlock = some k → vo.ownBlock ≠ some k) ∧ ∀ k, vl.ownBlock = some k → vn.ownBlock ≠ some k
theorem RW.ext {B : Nat} {w w' : World} {p : Nat} {L : List Int} {C : List Cr} {D : List Dy} {G : List Gd} {N : List Int} {O : List Gd} (h : RW B w p L C D G N O) (e : Ext w w') : RW B w' p L C D G N O := by
  obtain ⟨vl, vc, vd, vg, vn, vo, h0, h1, h2, h3, h4, h5, h6, h7, h8⟩ := h
  exact ⟨vl, vc, vd, vg, vn, vo, h0, (e.block _ (Rg.lt_of_heap h1)).trans h1, row_ext h2 e, row_ext h3 e, row_ext h4 e, row_ext h5 e, row_ext h6 e, row_ext h7 e, h8⟩
theorem RW.rb {B : Nat} {w : World} {p : Nat} {L : List Int} {C : List Cr} {D : List Dy} {G : List Gd} {N : List Int} {O : List Gd} (h : RW B w p L C D G N O) : RB B w p L C D := by
  obtain ⟨vl, vc, vd, vg, vn, vo, h0, h1, h2, h3, h4, -⟩ := h
  exact ⟨vl, vc, vd, h0, ⟨vg, vn, vo, h1⟩, h2, h3, h4⟩
/-- The place of a grade in a list, -1 where there is none. -/
def findP (G : List Gd) (k : Pl) : Int := match G.findIdx? (fun x => decide (x.pl = k)) with | some i => (i : Int) | none => -1
theorem findP_hit {G : List Gd} {k : Pl} {i : Nat} (h : i < G.length) (hi : G[i].pl = k) (hb : ∀ j (hj : j < i), (G[j]'(by omega)).pl ≠ k) : findP G k = i := by
  unfold findP
  have : G.findIdx? (fun x => decide (x.pl = k)) = some i := by
    rw [List.findIdx?_eq_some_iff_getElem]
    exact ⟨h, by simpa using hi, fun j hj => by simpa using hb j hj⟩
  rw [this]
theorem findP_miss {G : List Gd} {k : Pl} (hb : ∀ j (hj : j < G.length), G[j].pl ≠ k) : findP G k = -1 := by
  unfold findP
  have : G.findIdx? (fun x => decide (x.pl = k)) = none := by
    rw [List.findIdx?_eq_none_iff]
    intro x hx
    obtain ⟨j, hj, rfl⟩ := List.getElem_of_mem hx
    simpa using hb j hj
  rw [this]
set_option maxRecDepth 100000 in
set_option maxHeartbeats 4000000 in
theorem find_any (B p : Nat) (L : List Int) (C : List Cr) (D : List Dy) (G : List Gd) (N : List Int) (O : List Gd) (g : Gd) (w : World) (h : RW B w p L C D G N O) (hG : G.length ≤ 100000) :
    Calls Tryz.prog 42 #[.pointer (some ⟨p, 0, none⟩), g.v] w fun e w' => e = .returned (.int .i64 (findP G g.pl)) ∧ Ext w w' := by
  obtain ⟨vl, vc, vd, vg, vn, vo, -, h1, -, -, -, h5, -⟩ := h
  obtain ⟨gb, gc, rfl⟩ := (SR.of_row (cs := Gd.cs) gd_len h5 (by omega)).form
  have HR := Lib.hid (SR.of_row (cs := Gd.cs) gd_len h5 (by omega))
  have HP := Lib.hid h1
  obtain ⟨g0, g1, g2, g3, g4, g5⟩ := g
  unfold Gd.v
  simp only
  clear h1 h5
  go_enter Tryz.func42, Tryz.ntmps42
  go_upto_region 2 with (fail)
  have hq := heap_alloc_new w (.cells #[.int .i64 g0, .int .i64 g1, .int .i64 g2, .string g3, .int .i64 g4, .int .i64 g5] 23)
  have hx0 : Ext w (w.alloc (.cells #[.int .i64 g0, .int .i64 g1, .int .i64 g2, .string g3, .int .i64 g4, .int .i64 g5] 23)) := Ext.alloc (Ext.refl _) _
  obtain ⟨q, hqe⟩ : ∃ q, q = w.heap.size := ⟨_, rfl⟩
  rw [← hqe] at hq ⊢
  have HX0 := Lib.hid hx0; have HQ := Lib.hid hq
  clear hx0 hq hqe
  generalize w.alloc (.cells #[.int .i64 g0, .int .i64 g1, .int .i64 g2, .string g3, .int .i64 g4, .int .i64 g5] 23) = w1 at *
  go_loopw [5] (fun k wr => ∃ i : Nat, k = .int .i64 i ∧ i ≤ G.length ∧ Hid (∀ j (hj : j < i) (hG : j < G.length), G[j].pl ≠ (⟨g0, g1, g2, g3, g4, g5⟩ : Gd).pl) ∧ Ext w1 wr) (fun k _ => G.length - (iof k).toNat)
  case atStart => exact ⟨0, rfl, Nat.zero_le _, Lib.hid (fun j hj => by omega), Ext.refl _⟩
  case round =>
    obtain ⟨i, rfl, hi, HN, hx⟩ := hrel
    have hxw : Ext w wr := HX0.out.trans hx
    have p3 := cell_of_row wr p 3 _ _ _ (keep_heap hxw HP.out)
    have pl := Rg.lt_of_heap (keep_heap hxw HP.out)
    by_cases hil : i < G.length
    · obtain ⟨qb, rfl, hcell⟩ := row_at (HR.out.ext hxw) i hil
      have c0 := hcell 0 _ rfl
      have c1 := hcell 1 _ rfl
      have c2 := hcell 2 _ rfl
      have c3 := hcell 3 _ rfl
      have c4 := hcell 4 _ rfl
      have c5 := hcell 5 _ rfl
      have HXE : Hid (∀ x : Gd, x = G[i] → x.pl = (⟨g0, g1, g2, g3, g4, g5⟩ : Gd).pl → findP G (⟨g0, g1, g2, g3, g4, g5⟩ : Gd).pl = i) := Lib.hid fun x hx hp => findP_hit hil (by rw [← hx]; exact hp) (fun j hj => HN.out j hj (by omega))
      have HXN : Hid (∀ x : Gd, x = G[i] → x.pl ≠ (⟨g0, g1, g2, g3, g4, g5⟩ : Gd).pl → ∀ j (hj : j < i + 1) (hG : j < G.length), G[j].pl ≠ (⟨g0, g1, g2, g3, g4, g5⟩ : Gd).pl) := Lib.hid fun x hx hp j hj hG => by
        rcases Nat.lt_or_ge j i with h | h
        · exact HN.out j h hG
        · obtain rfl : j = i := by omega
          rw [← hx]
          exact hp
      clear hcell
      obtain ⟨x, hxg⟩ : ∃ x, x = G[i] := ⟨_, rfl⟩
      have HE := Lib.hid (HXE.out x hxg); have HNE := Lib.hid (HXN.out x hxg)
      rw [← hxg] at c0 c1 c2 c3 c4 c5
      clear hxg HXE HXN
      obtain ⟨x0, x1, x2, x3, x4, x5⟩ := x
      simp only [Nat.add_zero] at c0 c1 c2 c3 c4 c5
      go_upto_region 5 with (fail)
      have hxa := Lib.hid (Ext.alloc hx (.cells #[.int .i64 x0, .int .i64 x1, .int .i64 x2, .string x3, .int .i64 x4, .int .i64 x5] 23))
      have hz := heap_alloc_new wr (.cells #[.int .i64 x0, .int .i64 x1, .int .i64 x2, .string x3, .int .i64 x4, .int .i64 x5] 23)
      have hgq := keep_heap hxa.out HQ.out
      obtain ⟨qx, hqx⟩ : ∃ qx, qx = wr.heap.size := ⟨_, rfl⟩
      rw [← hqx] at hz ⊢
      clear c0 c1 c2 c3 c4 c5 p3 pl hx hxw hqx
      generalize wr.alloc (.cells #[.int .i64 x0, .int .i64 x1, .int .i64 x2, .string x3, .int .i64 x4, .int .i64 x5] 23) = w2 at *
      have z0 := cell_of_row w2 qx 0 _ _ _ hz
      have z1 := cell_of_row w2 qx 1 _ _ _ hz
      have z2 := cell_of_row w2 qx 2 _ _ _ hz
      have z3 := cell_of_row w2 qx 3 _ _ _ hz
      have zl := Rg.lt_of_heap hz
      have y0 := cell_of_row w2 q 0 _ _ _ hgq
      have y1 := cell_of_row w2 q 1 _ _ _ hgq
      have y2 := cell_of_row w2 q 2 _ _ _ hgq
      have y3 := cell_of_row w2 q 3 _ _ _ hgq
      have yl := Rg.lt_of_heap hgq
      clear hz hgq
      by_cases e0 : x0 = g0
      · by_cases e1 : x1 = g1
        · by_cases e2 : x2 = g2
          · by_cases e3 : x3 = g3
            · have HF := Lib.hid (HE.out (by unfold Gd.pl; simp only; rw [e0, e1, e2, e3]))
              subst e0 e1 e2 e3
              clear HE HNE
              go_wp2_with (fail)
              go_ret
              exact ⟨by rw [HF.out]; rfl, HX0.out.trans hxa.out⟩
            · have e4 : (x3.toList == g3.toList) = false := by
                rw [beq_eq_false_iff_ne]
                intro e
                rw [ByteArray.toList_eq, ByteArray.toList_eq] at e
                exact e3 (Go.WideShapes.bytes_inj e)
              have HF := Lib.hid (HNE.out (by unfold Gd.pl; simp only; intro e; injection e; exact e3 (by assumption)))
              clear HE HNE e3
              go_wp2_with (fail)
              exact ⟨⟨i + 1, by simp, by omega, HF, hxa.out⟩, by simp [iof]; omega⟩
          · have HF := Lib.hid (HNE.out (by unfold Gd.pl; simp only; intro e; injection e; exact e2 (by assumption)))
            clear HE HNE
            go_wp2_with (fail)
            exact ⟨⟨i + 1, by simp, by omega, HF, hxa.out⟩, by simp [iof]; omega⟩
        · have HF := Lib.hid (HNE.out (by unfold Gd.pl; simp only; intro e; injection e; exact e1 (by assumption)))
          clear HE HNE
          go_wp2_with (fail)
          exact ⟨⟨i + 1, by simp, by omega, HF, hxa.out⟩, by simp [iof]; omega⟩
      · have HF := Lib.hid (HNE.out (by unfold Gd.pl; simp only; intro e; injection e; exact e0 (by assumption)))
        clear HE HNE
        go_wp2_with (fail)
        exact ⟨⟨i + 1, by simp, by omega, HF, hxa.out⟩, by simp [iof]; omega⟩
    · obtain rfl : i = G.length := by omega
      have HF := Lib.hid (findP_miss (fun j hj => HN.out j hj hj))
      clear HN
      go_wp2_with (fail)
      go_ret
      exact ⟨by rw [HF.out]; rfl, hxw⟩
end Go.Proofs.YtnplnfkmcfalhaaGreatDoor
namespace Go.Proofs.YtnplnfkmcfalhaaGreatDoor
set_option linter.unusedVariables false
set_option linter.unusedSimpArgs false
open Go.RowKit

theorem ird_own {B : Nat} {w : World} {v : Value} {l : List Int} (h : w.ownsRow B 3 1 v l.length (l.flatMap celI)) (hl : ∀ x ∈ l, OkI x) (hn : l.length ≤ 1000000) : IRd w v l := by
  obtain ⟨b, c, rfl⟩ := (SR.of_row (cs := celI) (fun _ => rfl) h hn).form
  refine ⟨b, c, rfl, by omega, hl, ?_⟩
  by_cases h0 : l = []
  · exact .inl h0
  · have hp : 0 < l.length := List.length_pos_iff.2 h0
    have hs := SR.of_row (cs := celI) (fun _ => rfl) h hn
    obtain ⟨q, hq, -, hc⟩ := hs.block 0 hp
    refine .inr ⟨q, 0, hq, fun k hk => ?_⟩
    have := hc k hk 0 _ rfl
    simpa using this
set_option maxRecDepth 100000 in
theorem refIsFinal_any (B p : Nat) (L : List Int) (C : List Cr) (D : List Dy) (G : List Gd) (N : List Int) (O : List Gd) (bid : Int) (w : World) (h : RW B w p L C D G N O) (hN : N.length ≤ 100000) (hNo : ∀ n ∈ N, OkI n) :
    Calls Tryz.prog 44 #[.pointer (some ⟨p, 0, none⟩), .int .i64 bid] w fun e w' => e = .returned (.bool (decide (bid ∈ N))) ∧ Ext w w' := by
  obtain ⟨vl, vc, vd, vg, vn, vo, -, h1, -, -, -, -, h6, -⟩ := h
  have HC := Lib.hid (contains_any vn N bid w (ird_own h6 hNo (by omega)))
  have p4 := cell_of_row w p 4 _ _ _ h1
  have pl := Rg.lt_of_heap h1
  clear h1 h6
  go_enter Tryz.func44, Tryz.ntmps44
  go_wp2_with (go_at_call 39; (with_reducible refine HC.out.mono ?_); rintro e w2 ⟨rfl, hx⟩)
  go_ret
  exact ⟨rfl, hx⟩
end Go.Proofs.YtnplnfkmcfalhaaGreatDoor
namespace Go.Proofs.YtnplnfkmcfalhaaGreatDoor
set_option linter.unusedVariables false
set_option linter.unusedSimpArgs false
open Go.RowKit

theorem mem_lotsW {ls : List Lt} {i : Int} : i ∈ lotsW ls ↔ ∃ l ∈ ls, l.id = i := by
  have key : ∀ (ls : List Lt) (acc : List Int), i ∈ ls.foldl lotS acc ↔ i ∈ acc ∨ ∃ l ∈ ls, l.id = i := by
    intro ls
    induction ls with
    | nil => intro acc; simp
    | cons a ls ih =>
      intro acc
      rw [List.foldl_cons, ih]
      have h1 : i ∈ lotS acc a ↔ i ∈ acc ∨ a.id = i := by
        unfold lotS
        split
        · rename_i h
          constructor
          · exact .inl
          · rintro (h' | h')
            · exact h'
            · rw [← h']; exact h
        · rw [List.mem_append, List.mem_singleton]
          constructor
          · rintro (h | h)
            · exact .inl h
            · exact .inr h.symm
          · rintro (h | h)
            · exact .inl h
            · exact .inr h.symm
      rw [h1]
      simp only [List.mem_cons, exists_eq_or_imp]
      constructor
      · rintro ((h | h) | h)
        · exact .inl h
        · exact .inr (.inl h)
        · exact .inr (.inr h)
      · rintro (h | h | h)
        · exact .inl (.inl h)
        · exact .inl (.inr h)
        · exact .inr h
  have := key ls []
  simpa [lotsW] using this
theorem mem_dutsW {ds : List Dy} {d : Dy} : d ∈ dutsW ds ↔ d ∈ ds := by
  have key : ∀ (ds : List Dy) (acc : List Dy), d ∈ ds.foldl dutS acc ↔ d ∈ acc ∨ d ∈ ds := by
    intro ds
    induction ds with
    | nil => intro acc; simp
    | cons a ds ih =>
      intro acc
      rw [List.foldl_cons, ih]
      have h1 : d ∈ dutS acc a ↔ d ∈ acc ∨ d = a := by
        unfold dutS
        split
        · rename_i h
          constructor
          · exact .inl
          · rintro (h' | h')
            · exact h'
            · rw [h']; exact h
        · rw [List.mem_append, List.mem_singleton]
      rw [h1, List.mem_cons, or_assoc]
  have := key ds []
  simpa [dutsW] using this
/-- The reference's book and grade's hold the same. -/
structure Sim (b : Bk) (L : List Int) (C : List Cr) (D : List Dy) (G : List Gd) (N : List Int) (O : List Gd) : Prop where
  lots : ∀ i, b.lots i = decide (i ∈ L)
  crit : ∀ n, b.crit n = critOf C n
  dut : ∀ d, b.dut d = decide (d ∈ D)
  gr : ∀ k, b.gr k = G.find? fun x => decide (x.pl = k)
  nod : (G.map Gd.pl).Nodup
  fin : ∀ n, b.fin n = decide (n ∈ N)
  old : b.old = O
theorem Sim.fine {b : Bk} {L : List Int} {C : List Cr} {D : List Dy} {G : List Gd} {N : List Int} {O : List Gd} (h : Sim b L C D G N O) (bid : Int) : Sim (b.fine bid) L C D G (N ++ [bid]) O := by
  refine ⟨h.lots, h.crit, h.dut, h.gr, h.nod, fun n => ?_, h.old⟩
  show (if n = bid then true else b.fin n) = _
  rw [h.fin]
  by_cases hn : n = bid <;> simp [hn]
/-- A new place: the grade comes behind the others. -/
theorem Sim.add {b : Bk} {L : List Int} {C : List Cr} {D : List Dy} {G : List Gd} {N : List Int} {O : List Gd} (h : Sim b L C D G N O) {g : Gd} (hn : ∀ x ∈ G, x.pl ≠ g.pl) : Sim (b.put g) L C D (G ++ [g]) N O := by
  have hno : b.gr g.pl = none := by
    rw [h.gr, List.find?_eq_none]
    intro x hx
    simpa using hn x hx
  refine ⟨h.lots, h.crit, h.dut, fun k => ?_, ?_, h.fin, by rw [put_old0 b g hno, h.old]⟩
  · rw [List.find?_append]
    by_cases hk : k = g.pl
    · subst hk
      rw [put_same, ← h.gr, hno]
      simp
    · rw [put_ne b g hk, h.gr]
      have : decide (g.pl = k) = false := by simpa using fun e => hk e.symm
      simp [this]
  · rw [List.map_append]
    exact nodup_snoc h.nod (fun hm => by
      obtain ⟨x, hx, e⟩ := List.mem_map.1 hm
      exact hn x hx e)
theorem crit_fold (n : ByteArray) : ∀ (cs acc : List Cr), critOf (cs.foldl criS acc) n = (critOf acc n).or (cs.find? fun c => decide (c.kind = 1 ∧ c.name = n))
  | [], acc => by simp
  | c :: cs, acc => by
    rw [List.foldl_cons, crit_fold n cs, List.find?_cons]
    unfold criS
    by_cases hk : c.kind = 1
    · by_cases ha : (acc.any fun x => decide (x.name = c.name)) = true
      · rw [if_neg (fun e => e.2 ha)]
        by_cases hn : c.name = n
        · subst hn
          have : (critOf acc c.name).isSome := by
            unfold critOf
            rw [List.find?_isSome]
            obtain ⟨x, hx, e⟩ := List.any_eq_true.1 ha
            exact ⟨x, hx, e⟩
          obtain ⟨o, ho⟩ := Option.isSome_iff_exists.1 this
          rw [ho]
          simp
        · have : decide (c.kind = 1 ∧ c.name = n) = false := by simp [hn]
          rw [this]
      · rw [if_pos ⟨hk, ha⟩]
        unfold critOf
        rw [List.find?_append]
        by_cases hn : c.name = n
        · have h1 : decide (c.kind = 1 ∧ c.name = n) = true := by simp [hk, hn]
          have h2 : decide (c.name = n) = true := by simp [hn]
          rw [h1]
          simp [h2, Option.or_assoc]
        · have h1 : decide (c.kind = 1 ∧ c.name = n) = false := by simp [hn]
          have h2 : decide (c.name = n) = false := by simp [hn]
          rw [h1]
          simp [h2]
    · rw [if_neg (fun e => hk e.1)]
      have : decide (c.kind = 1 ∧ c.name = n) = false := by simp [hk]
      rw [this]
theorem Sim.start (ls : List Lt) (cs : List Cr) (ds : List Dy) : Sim (newB ls cs ds) (lotsW ls) (crisW cs) (dutsW ds) [] [] [] := by
  refine ⟨fun i => ?_, fun n => ?_, fun d => ?_, fun k => rfl, by simp, fun n => by simp [newB], rfl⟩
  · show (ls.any fun l => decide (l.id = i)) = _
    rw [Bool.eq_iff_iff, List.any_eq_true, decide_eq_true_eq, mem_lotsW]
    simp
  · show (cs.find? fun c => decide (c.kind = 1 ∧ c.name = n)) = _
    unfold crisW
    rw [crit_fold]
    simp [critOf]
  · show ds.contains d = _
    rw [Bool.eq_iff_iff, List.contains_iff_mem, decide_eq_true_eq, mem_dutsW]
/-- A place that is there: its grade is replaced. -/
theorem Sim.set {b : Bk} {L : List Int} {C : List Cr} {D : List Dy} {G : List Gd} {N : List Int} {O : List Gd} (h : Sim b L C D G N O) {g : Gd} {i : Nat} (hi : i < G.length) (hp : G[i].pl = g.pl) :
    Sim (b.put g) L C D (G.set i g) N (O ++ if G[i].n = g.n then [] else [G[i]]) := by
  have hone : ∀ (j : Nat) (hj : j < G.length), G[j].pl = g.pl → j = i := fun j hj e =>
    (List.getElem_inj (xs := G.map Gd.pl) (h₀ := by simpa using hj) (h₁ := by simpa using hi) h.nod).1 (by rw [List.getElem_map, List.getElem_map, e, hp])
  have hmap : (G.set i g).map Gd.pl = G.map Gd.pl := by
    rw [List.map_set, ← hp]
    exact List.ext_getElem (by simp) (fun n h1 h2 => by
      rw [List.getElem_set]
      split
      · rename_i e; subst e; simp
      · rfl)
  have hsome : ∀ (G' : List Gd), (G'.map Gd.pl).Nodup → ∀ (x : Gd), x ∈ G' → (G'.find? fun y => decide (y.pl = x.pl)) = some x := by
    intro G' hn x hx
    induction G' with
    | nil => cases hx
    | cons y G' ih =>
      rw [List.map_cons, List.nodup_cons] at hn
      rw [List.find?_cons]
      rcases List.mem_cons.1 hx with rfl | hx
      · simp
      · have hne : y.pl ≠ x.pl := fun e => hn.1 (List.mem_map.2 ⟨x, hx, e.symm⟩)
        rw [show decide (y.pl = x.pl) = false by simpa using hne]
        exact ih hn.2 hx
  have hgi : b.gr g.pl = some G[i] := by
    rw [h.gr, ← hp]
    exact hsome G h.nod _ (List.getElem_mem hi)
  refine ⟨h.lots, h.crit, h.dut, fun k => ?_, by rw [hmap]; exact h.nod, h.fin, by rw [put_old b g hgi, h.old]⟩
  by_cases hk : k = g.pl
  · subst hk
    rw [put_same]
    exact (hsome (G.set i g) (by rw [hmap]; exact h.nod) g (List.mem_iff_getElem.2 ⟨i, by simpa using hi, by simp⟩)).symm
  · rw [put_ne b g hk, h.gr]
    have hnx : ∀ (x : Gd), x.pl ≠ k → decide (x.pl = k) = false := fun x hx => by simpa using hx
    cases hf : G.find? fun x => decide (x.pl = k) with
    | none =>
      symm
      rw [List.find?_eq_none] at hf ⊢
      intro x hx
      rcases List.mem_or_eq_of_mem_set hx with hx | rfl
      · exact hf x hx
      · simpa using fun e => hk e.symm
    | some x =>
      have hx := List.mem_of_find?_eq_some hf
      have hxk : x.pl = k := by have := List.find?_some hf; simpa using this
      obtain ⟨j, hj, rfl⟩ := List.getElem_of_mem hx
      have hji : j ≠ i := fun e => by subst e; rw [hp] at hxk; exact hk hxk.symm
      have hm : G[j] ∈ G.set i g := by
        have : (G.set i g)[j]'(by simpa using hj) = G[j] := by rw [List.getElem_set]; rw [if_neg (fun e => hji e.symm)]
        rw [← this]
        exact List.getElem_mem _
      rw [← hxk]
      exact (hsome (G.set i g) (by rw [hmap]; exact h.nod) _ hm).symm
end Go.Proofs.YtnplnfkmcfalhaaGreatDoor
namespace Go.Proofs.YtnplnfkmcfalhaaGreatDoor
set_option linter.unusedVariables false
set_option linter.unusedSimpArgs false
open Go.RowKit Go.Sort Go.Shelf

theorem srtP_nodup {l : List Pl} (h : l.Nodup) : (srtP l).Nodup := (srtP_perm l).nodup_iff.2 h
theorem sel_min {G : List Gd} (hn : (G.map Gd.pl).Nodup) {n k : Nat} (hk : k < G.length) (hS : n < (srtP (G.map Gd.pl)).length) (hu : G[k].pl ∉ (srtP (G.map Gd.pl)).take n)
    (hm : ∀ j (hj : j < G.length), G[j].pl ∉ (srtP (G.map Gd.pl)).take n → bef G[j] G[k] = false) : G[k].pl = (srtP (G.map Gd.pl))[n] := by
  have hp := srtP_perm (G.map Gd.pl)
  have hs := srtP_sorted (G.map Gd.pl)
  have hnd := srtP_nodup hn
  generalize srtP (G.map Gd.pl) = S at *
  have h1 : S[n] ∈ G.map Gd.pl := hp.mem_iff.1 (List.getElem_mem hS)
  obtain ⟨g, hg, hge⟩ := List.mem_map.1 h1
  obtain ⟨j, hj, rfl⟩ := List.getElem_of_mem hg
  have hidx : ∀ (m : Nat) (hm : m < S.length), S[m] ∈ S.take n → m < n := fun m hm' h => by
    obtain ⟨i, hi, e⟩ := List.getElem_of_mem h
    rw [List.length_take] at hi
    rw [List.getElem_take] at e
    have := (List.getElem_inj (xs := S) (h₀ := by omega) (h₁ := hm') hnd).1 e
    omega
  have h2 := hm j hj (fun h => by rw [hge] at h; have := hidx n hS h; omega)
  rw [bef_lt, hge] at h2
  obtain ⟨m, hm', he⟩ := List.getElem_of_mem (hp.mem_iff.2 (List.mem_map.2 ⟨G[k], List.getElem_mem hk, rfl⟩))
  have hmn : n ≤ m := by
    rcases Nat.lt_or_ge m n with h | h
    · exfalso
      apply hu
      rw [← he]
      exact List.mem_take_iff_getElem.2 ⟨m, by omega, rfl⟩
    · exact h
  rcases Nat.lt_or_ge n m with h | h
  · have h3 := List.pairwise_iff_getElem.1 hs n m hS hm' h
    rw [he] at h3
    exact gcP.total _ _ h3 h2
  · obtain rfl : m = n := by omega
    exact he.symm
/-- The best of those seen so far: none, or a grade not done that no other one seen goes ahead of. -/
def Best (G : List Gd) (T : List Pl) (k : Nat) (b : Int) : Prop :=
  (b = -1 ∧ ∀ j (hj : j < k) (h : j < G.length), G[j].pl ∈ T) ∨ ∃ i : Nat, b = i ∧ i < k ∧ ∃ h : i < G.length, G[i].pl ∉ T ∧ ∀ j (hj : j < k) (hG : j < G.length), G[j].pl ∉ T → bef G[j] G[i] = false
theorem Best.start (G : List Gd) (T : List Pl) : Best G T 0 (-1) := .inl ⟨rfl, fun j hj => by omega⟩
theorem Best.done {G : List Gd} {T : List Pl} {k : Nat} {b : Int} (h : Best G T k b) (hk : k < G.length) (hd : G[k].pl ∈ T) : Best G T (k + 1) b := by
  rcases h with ⟨h1, h2⟩ | ⟨i, h1, h2, h3, h4, h5⟩
  · refine .inl ⟨h1, fun j hj hG => ?_⟩
    rcases Nat.lt_or_ge j k with h | h
    · exact h2 j h hG
    · obtain rfl : j = k := by omega
      exact hd
  · refine .inr ⟨i, h1, by omega, h3, h4, fun j hj hG hn => ?_⟩
    rcases Nat.lt_or_ge j k with h | h
    · exact h5 j h hG hn
    · obtain rfl : j = k := by omega
      exact absurd hd hn
theorem bef_irrefl (g : Gd) : bef g g = false := by rw [bef_lt]; unfold ltOf; rw [gcP.self]; rfl
theorem Best.first {G : List Gd} {T : List Pl} {k : Nat} (h : Best G T k (-1)) (hk : k < G.length) (hd : G[k].pl ∉ T) : Best G T (k + 1) k := by
  rcases h with ⟨-, h2⟩ | ⟨i, h1, -⟩
  · refine .inr ⟨k, rfl, by omega, hk, hd, fun j hj hG hn => ?_⟩
    rcases Nat.lt_or_ge j k with h | h
    · exact absurd (h2 j h hG) hn
    · obtain rfl : j = k := by omega
      exact bef_irrefl _
  · omega
theorem Best.keep {G : List Gd} {T : List Pl} {k i : Nat} (h : Best G T k (i : Int)) (hk : k < G.length) (hi : i < G.length) (hb : bef G[k] G[i] = false) : Best G T (k + 1) i := by
  rcases h with ⟨h1, -⟩ | ⟨i', h1, h2, h3, h4, h5⟩
  · omega
  · obtain rfl : i = i' := by omega
    refine .inr ⟨i, rfl, by omega, h3, h4, fun j hj hG hn => ?_⟩
    rcases Nat.lt_or_ge j k with h | h
    · exact h5 j h hG hn
    · obtain rfl : j = k := by omega
      exact hb
theorem bef_trans {a b c : Gd} (h1 : bef b c = true) (h2 : bef a c = false) : bef a b = false := by
  rw [bef_lt] at *
  unfold ltOf at *
  rw [decide_eq_true_eq] at h1
  rw [decide_eq_false_iff_not] at h2 ⊢
  intro h
  exact h2 (gcP.tr _ _ _ h h1)
theorem Best.turn {G : List Gd} {T : List Pl} {k i : Nat} (h : Best G T k (i : Int)) (hk : k < G.length) (hi : i < G.length) (hd : G[k].pl ∉ T) (hb : bef G[k] G[i] = true) : Best G T (k + 1) k := by
  rcases h with ⟨h1, -⟩ | ⟨i', h1, h2, h3, h4, h5⟩
  · omega
  · obtain rfl : i = i' := by omega
    refine .inr ⟨k, rfl, by omega, hk, hd, fun j hj hG hn => ?_⟩
    rcases Nat.lt_or_ge j k with h | h
    · exact bef_trans hb (h5 j h hG hn)
    · obtain rfl : j = k := by omega
      exact bef_irrefl _
end Go.Proofs.YtnplnfkmcfalhaaGreatDoor
namespace Go.Proofs.YtnplnfkmcfalhaaGreatDoor
set_option linter.unusedVariables false
set_option linter.unusedSimpArgs false
open Go.RowKit

theorem sel_int {l N : List Int} (hp : l.Perm N) {n : Nat} (ht : l.take n = (srtI N).take n) (hn : n < l.length) (hS : n < (srtI N).length) (hm : ∀ j (hj : j < l.length), n < j → l[n] ≤ l[j]) : l[n] = (srtI N)[n] := by
  have hps : l.Perm (srtI N) := hp.trans (srtI_perm N).symm
  have hss := srtI_sorted N
  generalize srtI N = S at *
  have hd : (l.drop n).Perm (S.drop n) := by
    rw [← List.take_append_drop n l, ← List.take_append_drop n S, ht] at hps
    exact (List.perm_append_left_iff _).1 hps
  have h1 : l[n] ∈ S.drop n := hd.mem_iff.1 (List.mem_drop_iff_getElem.2 ⟨0, by omega, by simp⟩)
  have h2 : S[n] ∈ l.drop n := hd.mem_iff.2 (List.mem_drop_iff_getElem.2 ⟨0, by omega, by simp⟩)
  obtain ⟨i, hi, hie⟩ := List.mem_drop_iff_getElem.1 h1
  obtain ⟨j, hj, hje⟩ := List.mem_drop_iff_getElem.1 h2
  have a1 : S[n] ≤ l[n] := by
    rw [← hie]
    rcases Nat.eq_zero_or_pos i with rfl | h
    · simp
    · exact List.pairwise_iff_getElem.1 hss n (n + i) hS (by omega) (by omega)
  have a2 : l[n] ≤ S[n] := by
    rw [← hje]
    rcases Nat.eq_zero_or_pos j with rfl | h
    · simp
    · exact hm (n + j) (by omega) (by omega)
  omega
end Go.Proofs.YtnplnfkmcfalhaaGreatDoor
namespace Go.Proofs.YtnplnfkmcfalhaaGreatDoor
set_option linter.unusedVariables false
set_option linter.unusedSimpArgs false
open Go.RowKit

open Classical in
/-- The reference's answer to a grade. -/
noncomputable def refE (L : List Int) (C : List Cr) (D : List Dy) (N : List Int) (g : Gd) : Int :=
  match critOf C g.name with
  | none => 34
  | some c => if g.lot ∉ L then 34 else if (⟨g.ass, g.bid⟩ : Dy) ∉ D then 35 else if g.n < c.low ∨ c.high < g.n then 16 else if g.bid ∈ N then 31 else 0
theorem Sim.ans {b : Bk} {L : List Int} {C : List Cr} {D : List Dy} {G : List Gd} {N : List Int} {O : List Gd} (h : Sim b L C D G N O) (g : Gd) : (giveR b g).1 = refE L C D N g ∧ (refE L C D N g ≠ 0 → (giveR b g).2 = b) ∧ (refE L C D N g = 0 → (giveR b g).2 = b.put g) := by
  unfold refE
  have hc := h.crit g.name
  cases hcc : critOf C g.name with
  | none =>
    rw [hcc] at hc
    rw [giveR_none hc]
    exact ⟨rfl, fun _ => rfl, fun e => absurd (show (34 : Int) = 0 from e) (by decide)⟩
  | some c =>
    rw [hcc] at hc
    rw [giveR_some hc]
    simp only
    by_cases h1 : g.lot ∈ L
    · have e1 : ¬ b.lots g.lot = false := by rw [h.lots]; simp [h1]
      rw [if_neg e1, if_neg (show ¬ g.lot ∉ L from fun e => e h1)]
      by_cases h2 : (⟨g.ass, g.bid⟩ : Dy) ∈ D
      · have e2 : ¬ b.dut ⟨g.ass, g.bid⟩ = false := by rw [h.dut]; simp [h2]
        rw [if_neg e2, if_neg (show ¬ (⟨g.ass, g.bid⟩ : Dy) ∉ D from fun e => e h2)]
        by_cases h3 : g.n < c.low ∨ c.high < g.n
        · rw [if_pos h3, if_pos h3]
          exact ⟨rfl, fun _ => rfl, fun e => absurd e (by decide)⟩
        · rw [if_neg h3, if_neg h3]
          by_cases h4 : g.bid ∈ N
          · have e4 : b.fin g.bid = true := by rw [h.fin]; simp [h4]
            rw [if_pos e4, if_pos h4]
            exact ⟨rfl, fun _ => rfl, fun e => absurd e (by decide)⟩
          · have e4 : ¬ b.fin g.bid = true := by rw [h.fin]; simp [h4]
            rw [if_neg e4, if_neg h4]
            exact ⟨rfl, fun e => absurd rfl e, fun _ => rfl⟩
      · have e2 : b.dut ⟨g.ass, g.bid⟩ = false := by rw [h.dut]; simp [h2]
        rw [if_pos e2, if_pos h2]
        exact ⟨rfl, fun _ => rfl, fun e => absurd e (by decide)⟩
    · have e1 : b.lots g.lot = false := by rw [h.lots]; simp [h1]
      rw [if_pos e1, if_pos h1]
      exact ⟨rfl, fun _ => rfl, fun e => absurd e (by decide)⟩
/-- The reference's Final, as it answers. -/
theorem Sim.hasA_iff {b : Bk} {L : List Int} {C : List Cr} {D : List Dy} {G : List Gd} {N : List Int} {O : List Gd} (h : Sim b L C D G N O) (bid : Int) : hasA b bid ↔ ∃ d ∈ D, d.bid = bid := by
  unfold hasA
  constructor
  · rintro ⟨a, ha⟩
    rw [h.dut, decide_eq_true_eq] at ha
    exact ⟨_, ha, rfl⟩
  · rintro ⟨d, hd, rfl⟩
    exact ⟨d.ass, by rw [h.dut, decide_eq_true_eq]; cases d; exact hd⟩
theorem Sim.few_iff {b : Bk} {L : List Int} {C : List Cr} {D : List Dy} {G : List Gd} {N : List Int} {O : List Gd} (h : Sim b L C D G N O) (bid : Int) : few b bid ↔ ∃ d ∈ D, d.bid = bid ∧ ∃ l ∈ L, ∃ c ∈ C, ∀ x ∈ G, x.pl ≠ ⟨bid, l, c.name, d.ass⟩ := by
  unfold few
  constructor
  · rintro ⟨lot, name, a, h1, h2, h3, h4⟩
    rw [h.lots, decide_eq_true_eq] at h1
    rw [h.crit] at h2
    unfold critOf at h2
    rw [List.find?_isSome] at h2
    obtain ⟨c, hc, hcn⟩ := h2
    rw [decide_eq_true_eq] at hcn
    rw [h.dut, decide_eq_true_eq] at h3
    rw [h.gr, List.find?_eq_none] at h4
    subst hcn
    exact ⟨_, h3, rfl, lot, h1, c, hc, fun x hx e => h4 x hx (by simpa using e)⟩
  · rintro ⟨d, hd, hdb, l, hl, c, hc, hx⟩
    refine ⟨l, c.name, d.ass, by rw [h.lots, decide_eq_true_eq]; exact hl, ?_, ?_, ?_⟩
    · rw [h.crit]
      unfold critOf
      rw [List.find?_isSome]
      exact ⟨c, hc, by simp⟩
    · rw [h.dut, decide_eq_true_eq, ← hdb]
      cases d
      exact hd
    · rw [h.gr, List.find?_eq_none]
      intro x hxg
      simpa using hx x hxg
end Go.Proofs.YtnplnfkmcfalhaaGreatDoor
