/-
  The order of places. Nothing is asked.
-/
import Derived.Test.YtnplnfkmcfalhaaGreatDoorGzL
import Derived.Test.YtnplnfkmcfalhaaGreatDoorRgD
import Derived.Sort.LotA
namespace Go.Proofs.YtnplnfkmcfalhaaGreatDoor
set_option linter.unusedVariables false
set_option linter.unusedSimpArgs false
open Go.RowKit Go.Sort

def cmpS (a b : ByteArray) : Int := if Op.bytesLess a.toList b.toList = true then -1 else if (a.toList == b.toList) = true then 0 else 1
/-- The first that is not 0. -/
def orF (l : List Int) : Int := (l.find? fun z => decide (z ≠ 0)).getD 0
def cmpPl (x y : Pl) : Int := orF [Lib.compareInt x.bid y.bid, Lib.compareInt x.lot y.lot, cmpS x.name y.name, Lib.compareInt x.ass y.ass]
theorem cmpI_any (x y : Int) (w : World) : Calls Tryz.prog 35 #[.int .i64 x, .int .i64 y] w fun e w' => e = .returned (.int .i64 (Lib.compareInt x y)) ∧ w' = w := Any.cmp_Compare_int lays122 x y w
theorem isNaNS_any (x : ByteArray) (w : World) : Calls Tryz.prog 75 #[.string x] w fun e w' => e = .returned (.bool false) ∧ w' = w := by
  go_enter Tryz.func75, Tryz.ntmps75
  go_wp2
  go_ret
  exact ⟨rfl, rfl⟩
theorem cmpS_any (x y : ByteArray) (w : World) : Calls Tryz.prog 51 #[.string x, .string y] w fun e w' => e = .returned (.int .i64 (cmpS x y)) ∧ w' = w := by
  have HC : Hid (cmpS x y = if Op.bytesLess x.toList y.toList = true then -1 else if (x.toList == y.toList) = true then 0 else 1) := Lib.hid rfl
  cases h1 : Op.bytesLess x.toList y.toList with
  | true =>
    have H1 := Lib.hid h1
    go_enter Tryz.func51, Tryz.ntmps51
    go_wp2_with (go_at_call 75; (with_reducible refine (isNaNS_any _ _).mono ?_); rintro e w2 ⟨rfl, hw2⟩; have h9 := hw2.symm; clear hw2; subst h9)
    go_ret
    exact ⟨by rw [HC.out, H1.out]; rfl, rfl⟩
  | false =>
    have H1 := Lib.hid h1
    cases h2 : (x.toList == y.toList) with
    | true =>
      have H2 := Lib.hid h2
      go_enter Tryz.func51, Tryz.ntmps51
      go_wp2_with (go_at_call 75; (with_reducible refine (isNaNS_any _ _).mono ?_); rintro e w2 ⟨rfl, hw2⟩; have h9 := hw2.symm; clear hw2; subst h9)
      go_ret
      exact ⟨by rw [HC.out, H1.out, H2.out]; rfl, rfl⟩
    | false =>
      have H2 := Lib.hid h2
      go_enter Tryz.func51, Tryz.ntmps51
      go_wp2_with (go_at_call 75; (with_reducible refine (isNaNS_any _ _).mono ?_); rintro e w2 ⟨rfl, hw2⟩; have h9 := hw2.symm; clear hw2; subst h9)
      go_ret
      exact ⟨by rw [HC.out, H1.out, H2.out]; rfl, rfl⟩
theorem or_any (v : Value) (l : List Int) (w : World) (hl : IRd w v l) : Calls Tryz.prog 50 #[v] w fun e w' => e = .returned (.int .i64 (orF l)) ∧ w' = w := by
  obtain ⟨A, c, rfl, hlen, -, hcell⟩ := hl
  go_enter Tryz.func50, Tryz.ntmps50
  go_wp2_with (fail)
  go_loopw [8] (fun k wr => ∃ i : Nat, k = .int .i64 i ∧ i ≤ l.length ∧ Hid (orF l = orF (l.drop i)) ∧ w = wr) (fun k _ => l.length - (iof k).toNat)
  case atStart => exact ⟨0, rfl, Nat.zero_le _, Lib.hid rfl, rfl⟩
  case round =>
    obtain ⟨i, rfl, hi, HI, rfl⟩ := hrel
    by_cases hil : i < l.length
    · obtain ⟨b, off, rfl, hc⟩ := hcell.resolve_left (by intro e; rw [e] at hil; simp at hil)
      have c0 := hc i hil
      have Hs : Hid (orF (l.drop i) = if l[i] = 0 then orF (l.drop (i + 1)) else l[i]) := Lib.hid (by
        unfold orF
        rw [List.drop_eq_getElem_cons hil, List.find?_cons]
        by_cases e : l[i] = 0
        · rw [e]; simp
        · simp [e])
      clear hc
      generalize l[i] = z at *
      by_cases hz : z = 0
      · subst hz
        go_wp2_with (fail)
        exact ⟨⟨i + 1, by simp, by omega, Lib.hid (by rw [HI.out, Hs.out, if_pos rfl]), by simp⟩, by simp [iof]; omega⟩
      · have HZ := Lib.hid hz
        go_wp2_with (fail)
        go_ret
        exact ⟨by rw [HI.out, Hs.out, if_neg HZ.out]; rfl, rfl⟩
    · obtain rfl : i = l.length := by omega
      go_wp2_with (fail)
      go_ret
      exact ⟨by rw [HI.out, List.drop_length]; rfl, rfl⟩

/-- A comparison that is a total order. -/
structure GC {α : Type} (c : α → α → Int) : Prop where
  anti : ∀ x y, c y x = - c x y
  eq : ∀ x y, c x y = 0 → x = y
  tr : ∀ x y z, c x y < 0 → c y z < 0 → c x z < 0
theorem GC.self {α : Type} {c : α → α → Int} (h : GC c) (x : α) : c x x = 0 := by have := h.anti x x; omega
theorem GC.swo {α : Type} {c : α → α → Int} (h : GC c) : SWO (ltOf c) where
  irrefl x := by simp [ltOf, h.self]
  trans x y z h1 h2 := by simp only [ltOf, decide_eq_true_eq] at *; exact h.tr x y z h1 h2
  ntrans x y z h1 h2 := by
    simp only [ltOf, decide_eq_false_iff_not] at *
    intro h3
    by_cases e : c x y = 0
    · obtain rfl := h.eq _ _ e
      exact h2 h3
    · have h4 : c y x < 0 := by have := h.anti x y; omega
      exact h2 (h.tr y x z h4 h3)
theorem GC.total {α : Type} {c : α → α → Int} (h : GC c) (x y : α) (h1 : ltOf c x y = false) (h2 : ltOf c y x = false) : x = y := by
  simp only [ltOf, decide_eq_false_iff_not] at *
  have := h.anti x y
  exact h.eq x y (by omega)
def lexC {α β : Type} (c : α → α → Int) (d : β → β → Int) : α × β → α × β → Int := fun x y => if c x.1 y.1 = 0 then d x.2 y.2 else c x.1 y.1
theorem GC.lex {α β : Type} {c : α → α → Int} {d : β → β → Int} (h : GC c) (k : GC d) : GC (lexC c d) := by
  refine ⟨fun x y => ?_, fun x y e => ?_, fun x y z h1 h2 => ?_⟩
  · unfold lexC
    have := h.anti x.1 y.1
    by_cases e : c x.1 y.1 = 0
    · rw [if_pos e, if_pos (by omega), k.anti]
    · rw [if_neg e, if_neg (by omega), this]
  · unfold lexC at e
    by_cases e1 : c x.1 y.1 = 0
    · rw [if_pos e1] at e
      exact Prod.ext (h.eq _ _ e1) (k.eq _ _ e)
    · rw [if_neg e1] at e
      exact absurd e e1
  · unfold lexC at *
    by_cases e1 : c x.1 y.1 = 0
    · rw [if_pos e1] at h1
      have e2 := h.eq _ _ e1
      rw [e2]
      by_cases e3 : c y.1 z.1 = 0
      · rw [if_pos e3] at h2 ⊢
        exact k.tr _ _ _ h1 h2
      · rw [if_neg e3] at h2 ⊢
        exact h2
    · rw [if_neg e1] at h1
      by_cases e3 : c y.1 z.1 = 0
      · have e4 := h.eq _ _ e3
        rw [← e4, if_neg e1]
        exact h1
      · rw [if_neg e3] at h2
        have := h.tr _ _ _ h1 h2
        rw [if_neg (by omega)]
        exact this
theorem GC.via {α β : Type} {c : α → α → Int} (h : GC c) (f : β → α) (hf : ∀ x y, f x = f y → x = y) : GC fun x y => c (f x) (f y) :=
  ⟨fun _ _ => h.anti _ _, fun x y e => hf x y (h.eq _ _ e), fun _ _ _ h1 h2 => h.tr _ _ _ h1 h2⟩
theorem gcI : GC Lib.compareInt := by
  refine ⟨fun x y => ?_, fun x y e => ?_, fun x y z h1 h2 => ?_⟩
  · unfold Lib.compareInt; split <;> split <;> omega
  · unfold Lib.compareInt at e; split at e
    · omega
    · split at e <;> omega
  · unfold Lib.compareInt at *; split at h1 <;> split at h2 <;> (try split at h1) <;> (try split at h2) <;> (split <;> omega)
theorem bLess_eq : ∀ (x y : List UInt8), Op.bytesLess x y = decide (x < y)
  | [], [] => by simp [Op.bytesLess]
  | [], _ :: _ => by simp [Op.bytesLess]
  | _ :: _, [] => by simp [Op.bytesLess]
  | a :: x, b :: y => by
    have ih := bLess_eq x y
    unfold Op.bytesLess
    rw [ih, Bool.eq_iff_iff, decide_eq_true_iff, List.cons_lt_cons_iff]
    simp
theorem gcL : GC (fun a b : List UInt8 => if Op.bytesLess a b = true then (-1 : Int) else if (a == b) = true then 0 else 1) := by
  have ht : ∀ x y : List UInt8, ¬ x < y → ¬ y < x → x = y := fun x y h1 h2 => List.le_antisymm (List.not_lt.1 h2) (List.not_lt.1 h1)
  refine ⟨fun x y => ?_, fun x y e => ?_, fun x y z h1 h2 => ?_⟩
  all_goals simp only [bLess_eq, decide_eq_true_eq, beq_iff_eq] at *
  · by_cases h1 : x < y
    · have h2 : ¬ y < x := fun h => List.lt_irrefl x (List.lt_trans h1 h)
      have h3 : ¬ y = x := fun h => by rw [h] at h1; exact List.lt_irrefl x h1
      simp [h1, h2, h3]
    · by_cases h2 : y < x
      · have h3 : ¬ x = y := fun h => by rw [h] at h2; exact List.lt_irrefl y h2
        simp [h1, h2, h3]
      · have h3 := ht x y h1 h2
        subst h3
        simp [h1]
  · split at e
    · omega
    · split at e
      · assumption
      · omega
  · have h3 : x < y := by
      split at h1
      · assumption
      · split at h1 <;> omega
    have h4 : y < z := by
      split at h2
      · assumption
      · split at h2 <;> omega
    rw [if_pos (List.lt_trans h3 h4)]
    decide
theorem gcS : GC cmpS := gcL.via ByteArray.toList (fun x y h => by rw [ByteArray.toList_eq, ByteArray.toList_eq] at h; exact Go.WideShapes.bytes_inj h)
theorem cmpPl_lex (x y : Pl) : cmpPl x y = lexC Lib.compareInt (lexC Lib.compareInt (lexC cmpS Lib.compareInt)) (x.bid, x.lot, x.name, x.ass) (y.bid, y.lot, y.name, y.ass) := by
  unfold cmpPl orF lexC
  simp only [List.find?_cons, List.find?_nil]
  by_cases h1 : Lib.compareInt x.bid y.bid = 0
  · by_cases h2 : Lib.compareInt x.lot y.lot = 0
    · by_cases h3 : cmpS x.name y.name = 0
      · by_cases h4 : Lib.compareInt x.ass y.ass = 0 <;> simp [h1, h2, h3, h4]
      · simp [h1, h2, h3]
    · simp [h1, h2]
  · simp [h1]
theorem gcP : GC cmpPl := by
  have h := (gcI.lex (gcI.lex (gcS.lex gcI))).via (fun x : Pl => (x.bid, x.lot, x.name, x.ass)) (fun x y e => by
    obtain ⟨a, b, c, d⟩ := x
    obtain ⟨a', b', c', d'⟩ := y
    simp only [Prod.mk.injEq] at e
    obtain ⟨rfl, rfl, rfl, rfl⟩ := e
    rfl)
  have e : cmpPl = fun x y : Pl => lexC Lib.compareInt (lexC Lib.compareInt (lexC cmpS Lib.compareInt)) (x.bid, x.lot, x.name, x.ass) (y.bid, y.lot, y.name, y.ass) := by
    funext x y
    exact cmpPl_lex x y
  rw [e]
  exact h

end Go.Proofs.YtnplnfkmcfalhaaGreatDoor
namespace Go.Proofs.YtnplnfkmcfalhaaGreatDoor.Dw
open Go.RowKit Go.Sort
theorem cmpI_d (x y : Int) (w : World) : Calls Tryz.prog 35 #[.int .i64 x, .int .i64 y] w fun e w' => e = .returned (.int .i64 (Lib.compareInt x y)) ∧ Ext w w' := (cmpI_any x y w).mono fun _ _ ⟨h, e⟩ => ⟨h, e ▸ Ext.refl _⟩
theorem cmpS_d (x y : ByteArray) (w : World) : Calls Tryz.prog 51 #[.string x, .string y] w fun e w' => e = .returned (.int .i64 (cmpS x y)) ∧ Ext w w' := (cmpS_any x y w).mono fun _ _ ⟨h, e⟩ => ⟨h, e ▸ Ext.refl _⟩
theorem cmpI_ok (x y : Int) : OkI (Lib.compareInt x y) := by unfold Lib.compareInt; split; exact okI_small (by decide); split <;> exact okI_small (by decide)
theorem cmpS_ok (x y : ByteArray) : OkI (cmpS x y) := by unfold cmpS; split; exact okI_small (by decide); split <;> exact okI_small (by decide)
set_option maxRecDepth 100000 in
set_option maxHeartbeats 2000000 in
theorem compare_any (x y : Pl) (w : World) :
    Calls Tryz.prog 31 #[encP x, encP y] w fun e w' => e = .returned (.int .i64 (cmpPl x y)) ∧ Ext w w' := by
  obtain ⟨xb, xl, xn, xa⟩ := x
  obtain ⟨yb, yl, yn, ya⟩ := y
  have HC : Hid (cmpPl ⟨xb, xl, xn, xa⟩ ⟨yb, yl, yn, ya⟩ = orF [Lib.compareInt xb yb, Lib.compareInt xl yl, cmpS xn yn, Lib.compareInt xa ya]) := Lib.hid rfl
  have H1 := Lib.hid (cmpI_d xb yb); have H2 := Lib.hid (cmpI_d xl yl); have H3 := Lib.hid (cmpS_d xn yn); have H4 := Lib.hid (cmpI_d xa ya)
  have HO : Hid (∀ z ∈ [Lib.compareInt xb yb, Lib.compareInt xl yl, cmpS xn yn, Lib.compareInt xa ya], OkI z) := Lib.hid (by
    intro z hz
    simp only [List.mem_cons, List.not_mem_nil, or_false] at hz
    rcases hz with rfl | rfl | rfl | rfl
    · exact cmpI_ok _ _
    · exact cmpI_ok _ _
    · exact cmpS_ok _ _
    · exact cmpI_ok _ _)
  generalize cmpPl ⟨xb, xl, xn, xa⟩ ⟨yb, yl, yn, ya⟩ = cr at *
  generalize Lib.compareInt xb yb = c1 at *
  generalize Lib.compareInt xl yl = c2 at *
  generalize cmpS xn yn = c3 at *
  generalize Lib.compareInt xa ya = c4 at *
  unfold encP
  simp only
  go_enter Tryz.func31, Tryz.ntmps31
  go_upto_region 1 with (fail)
  have hx1 : Ext w ((w.alloc (.cells #[.int .i64 xb, .int .i64 xl, .string xn, .int .i64 xa] 91)).alloc (.cells #[.int .i64 yb, .int .i64 yl, .string yn, .int .i64 ya] 91)) := Ext.alloc (Ext.alloc (Ext.refl _) _) _
  have hq : ((w.alloc (.cells #[.int .i64 xb, .int .i64 xl, .string xn, .int .i64 xa] 91)).alloc (.cells #[.int .i64 yb, .int .i64 yl, .string yn, .int .i64 ya] 91)).heap[w.heap.size]? = some (.cells #[.int .i64 xb, .int .i64 xl, .string xn, .int .i64 xa] 91) := by rw [Below.heap_alloc _ _ _ (by simp)]; exact heap_alloc_new _ _
  have hr : ((w.alloc (.cells #[.int .i64 xb, .int .i64 xl, .string xn, .int .i64 xa] 91)).alloc (.cells #[.int .i64 yb, .int .i64 yl, .string yn, .int .i64 ya] 91)).heap[w.heap.size + 1]? = some (.cells #[.int .i64 yb, .int .i64 yl, .string yn, .int .i64 ya] 91) := heap_at _ _ _ (by simp)
  generalize ((w.alloc (.cells #[.int .i64 xb, .int .i64 xl, .string xn, .int .i64 xa] 91)).alloc (.cells #[.int .i64 yb, .int .i64 yl, .string yn, .int .i64 ya] 91)) = W1 at *
  obtain ⟨px, hpx⟩ : ∃ px, px = w.heap.size := ⟨_, rfl⟩
  obtain ⟨py, hpy⟩ : ∃ py, py = w.heap.size + 1 := ⟨_, rfl⟩
  rw [← hpy] at hr ⊢
  rw [← hpx] at hq ⊢
  have q0 := cell_of_row W1 px 0 _ _ _ hq
  have q1 := cell_of_row W1 px 1 _ _ _ hq
  have q2 := cell_of_row W1 px 2 _ _ _ hq
  have q3 := cell_of_row W1 px 3 _ _ _ hq
  have r0 := cell_of_row W1 py 0 _ _ _ hr
  have r1 := cell_of_row W1 py 1 _ _ _ hr
  have r2 := cell_of_row W1 py 2 _ _ _ hr
  have r3 := cell_of_row W1 py 3 _ _ _ hr
  have ql := (Array.getElem?_eq_some_iff.1 hq).1
  have rl := (Array.getElem?_eq_some_iff.1 hr).1
  have HX := Lib.hid hx1
  clear hq hr hx1 hpx hpy
  refine Rr.wp_region [(0, .y), (1, .y), (2, .y), (3, .y), (4, .y), (5, .y), (6, .y), (7, .y), (8, .y), (9, .y), (10, .y), (11, .y), (12, .y), (13, .y), (14, .y), (15, .y), (16, .y), (17, .y), (18, .y), (19, .y), (20, .y), (21, .y), (22, .y), (23, .y), (24, .y), (25, .y), (26, .m), (27, .y)] (fun _ => (.cells #[.int .i64 c1, .int .i64 c2, .int .i64 c3, .int .i64 c4] 3, fun p => .slice (some ⟨p, 0, none⟩) 4 4)) (by kernel_rfl) (by kernel_rfl) ?_
  (refine Rr.wr_y (by simp only [List.getElem?_toArray, List.getElem?_cons_succ, List.getElem?_cons_zero]; rfl) (by rfl) ?_
   apply Exists.intro
   refine ⟨fun wz hw _ => ?_, ?_⟩
   · have hcz := hw.cells.1
     go_simp
     (with_reducible exact Rg.up_value)
   simp only [Act.put, List.setIfInBounds_toArray, List.set_cons_zero, List.set_cons_succ])
  (refine Rr.wr_y (by simp only [List.getElem?_toArray, List.getElem?_cons_succ, List.getElem?_cons_zero]; rfl) (by rfl) ?_
   apply Exists.intro
   refine ⟨fun wz hw _ => ?_, ?_⟩
   · have hcz := hw.cells.1
     go_simp
     (with_reducible exact Rg.up_value)
   simp only [Act.put, List.setIfInBounds_toArray, List.set_cons_zero, List.set_cons_succ])
  (refine Rr.wr_y (by simp only [List.getElem?_toArray, List.getElem?_cons_succ, List.getElem?_cons_zero]; rfl) (by rfl) ?_
   apply Exists.intro
   refine ⟨fun wz hw _ => ?_, ?_⟩
   · have hcz := hw.cells.1
     go_simp
     (with_reducible exact Rg.up_value)
   simp only [Act.put, List.setIfInBounds_toArray, List.set_cons_zero, List.set_cons_succ])
  (refine Rr.wr_y (by simp only [List.getElem?_toArray, List.getElem?_cons_succ, List.getElem?_cons_zero]; rfl) (by rfl) ?_
   apply Exists.intro
   refine ⟨fun wz hw _ => ?_, ?_⟩
   · have hcz := hw.cells.1
     go_simp
     (with_reducible exact Rg.up_value)
   simp only [Act.put, List.setIfInBounds_toArray, List.set_cons_zero, List.set_cons_succ])
  (refine Rr.wr_y (by simp only [List.getElem?_toArray, List.getElem?_cons_succ, List.getElem?_cons_zero]; rfl) (by rfl) ?_
   apply Exists.intro
   refine ⟨fun wz hw _ => ?_, ?_⟩
   · have hcz := hw.cells.1
     go_simp
     (with_reducible exact Rg.up_value)
   simp only [Act.put, List.setIfInBounds_toArray, List.set_cons_zero, List.set_cons_succ])
  (refine Rr.wr_y (by simp only [List.getElem?_toArray, List.getElem?_cons_succ, List.getElem?_cons_zero]; rfl) (by rfl) ?_
   apply Exists.intro
   refine ⟨fun wz hw _ => ?_, ?_⟩
   · have hcz := hw.cells.1
     go_simp
     (with_reducible exact Rg.up_value)
   simp only [Act.put, List.setIfInBounds_toArray, List.set_cons_zero, List.set_cons_succ])
  (refine Rr.wr_y (by simp only [List.getElem?_toArray, List.getElem?_cons_succ, List.getElem?_cons_zero]; rfl) (by rfl) ?_
   apply Exists.intro
   refine ⟨fun wz hw _ => ?_, ?_⟩
   · have hcz := hw.cells.1
     go_simp
     apply Rg.up_enter
     (with_reducible refine (H1.out _).mono ?_)
     rintro e w3 ⟨rfl, hb3⟩
     exact ⟨rfl, hb3⟩
   simp only [Act.put, List.setIfInBounds_toArray, List.set_cons_zero, List.set_cons_succ])
  (refine Rr.wr_y (by simp only [List.getElem?_toArray, List.getElem?_cons_succ, List.getElem?_cons_zero]; rfl) (by rfl) ?_
   apply Exists.intro
   refine ⟨fun wz hw _ => ?_, ?_⟩
   · have hcz := hw.cells.1
     go_simp
     (with_reducible exact Rg.up_value)
   simp only [Act.put, List.setIfInBounds_toArray, List.set_cons_zero, List.set_cons_succ])
  (refine Rr.wr_y (by simp only [List.getElem?_toArray, List.getElem?_cons_succ, List.getElem?_cons_zero]; rfl) (by rfl) ?_
   apply Exists.intro
   refine ⟨fun wz hw _ => ?_, ?_⟩
   · have hcz := hw.cells.1
     go_simp
     (with_reducible exact Rg.up_value)
   simp only [Act.put, List.setIfInBounds_toArray, List.set_cons_zero, List.set_cons_succ])
  (refine Rr.wr_y (by simp only [List.getElem?_toArray, List.getElem?_cons_succ, List.getElem?_cons_zero]; rfl) (by rfl) ?_
   apply Exists.intro
   refine ⟨fun wz hw _ => ?_, ?_⟩
   · have hcz := hw.cells.1
     go_simp
     (with_reducible exact Rg.up_value)
   simp only [Act.put, List.setIfInBounds_toArray, List.set_cons_zero, List.set_cons_succ])
  (refine Rr.wr_y (by simp only [List.getElem?_toArray, List.getElem?_cons_succ, List.getElem?_cons_zero]; rfl) (by rfl) ?_
   apply Exists.intro
   refine ⟨fun wz hw _ => ?_, ?_⟩
   · have hcz := hw.cells.1
     go_simp
     (with_reducible exact Rg.up_value)
   simp only [Act.put, List.setIfInBounds_toArray, List.set_cons_zero, List.set_cons_succ])
  (refine Rr.wr_y (by simp only [List.getElem?_toArray, List.getElem?_cons_succ, List.getElem?_cons_zero]; rfl) (by rfl) ?_
   apply Exists.intro
   refine ⟨fun wz hw _ => ?_, ?_⟩
   · have hcz := hw.cells.1
     go_simp
     (with_reducible exact Rg.up_value)
   simp only [Act.put, List.setIfInBounds_toArray, List.set_cons_zero, List.set_cons_succ])
  (refine Rr.wr_y (by simp only [List.getElem?_toArray, List.getElem?_cons_succ, List.getElem?_cons_zero]; rfl) (by rfl) ?_
   apply Exists.intro
   refine ⟨fun wz hw _ => ?_, ?_⟩
   · have hcz := hw.cells.1
     go_simp
     (with_reducible exact Rg.up_value)
   simp only [Act.put, List.setIfInBounds_toArray, List.set_cons_zero, List.set_cons_succ])
  (refine Rr.wr_y (by simp only [List.getElem?_toArray, List.getElem?_cons_succ, List.getElem?_cons_zero]; rfl) (by rfl) ?_
   apply Exists.intro
   refine ⟨fun wz hw _ => ?_, ?_⟩
   · have hcz := hw.cells.1
     go_simp
     apply Rg.up_enter
     (with_reducible refine (H2.out _).mono ?_)
     rintro e w3 ⟨rfl, hb3⟩
     exact ⟨rfl, hb3⟩
   simp only [Act.put, List.setIfInBounds_toArray, List.set_cons_zero, List.set_cons_succ])
  (refine Rr.wr_y (by simp only [List.getElem?_toArray, List.getElem?_cons_succ, List.getElem?_cons_zero]; rfl) (by rfl) ?_
   apply Exists.intro
   refine ⟨fun wz hw _ => ?_, ?_⟩
   · have hcz := hw.cells.1
     go_simp
     (with_reducible exact Rg.up_value)
   simp only [Act.put, List.setIfInBounds_toArray, List.set_cons_zero, List.set_cons_succ])
  (refine Rr.wr_y (by simp only [List.getElem?_toArray, List.getElem?_cons_succ, List.getElem?_cons_zero]; rfl) (by rfl) ?_
   apply Exists.intro
   refine ⟨fun wz hw _ => ?_, ?_⟩
   · have hcz := hw.cells.1
     go_simp
     (with_reducible exact Rg.up_value)
   simp only [Act.put, List.setIfInBounds_toArray, List.set_cons_zero, List.set_cons_succ])
  (refine Rr.wr_y (by simp only [List.getElem?_toArray, List.getElem?_cons_succ, List.getElem?_cons_zero]; rfl) (by rfl) ?_
   apply Exists.intro
   refine ⟨fun wz hw _ => ?_, ?_⟩
   · have hcz := hw.cells.1
     go_simp
     (with_reducible exact Rg.up_value)
   simp only [Act.put, List.setIfInBounds_toArray, List.set_cons_zero, List.set_cons_succ])
  (refine Rr.wr_y (by simp only [List.getElem?_toArray, List.getElem?_cons_succ, List.getElem?_cons_zero]; rfl) (by rfl) ?_
   apply Exists.intro
   refine ⟨fun wz hw _ => ?_, ?_⟩
   · have hcz := hw.cells.1
     go_simp
     (with_reducible exact Rg.up_value)
   simp only [Act.put, List.setIfInBounds_toArray, List.set_cons_zero, List.set_cons_succ])
  (refine Rr.wr_y (by simp only [List.getElem?_toArray, List.getElem?_cons_succ, List.getElem?_cons_zero]; rfl) (by rfl) ?_
   apply Exists.intro
   refine ⟨fun wz hw _ => ?_, ?_⟩
   · have hcz := hw.cells.1
     go_simp
     (with_reducible exact Rg.up_value)
   simp only [Act.put, List.setIfInBounds_toArray, List.set_cons_zero, List.set_cons_succ])
  (refine Rr.wr_y (by simp only [List.getElem?_toArray, List.getElem?_cons_succ, List.getElem?_cons_zero]; rfl) (by rfl) ?_
   apply Exists.intro
   refine ⟨fun wz hw _ => ?_, ?_⟩
   · have hcz := hw.cells.1
     go_simp
     (with_reducible exact Rg.up_value)
   simp only [Act.put, List.setIfInBounds_toArray, List.set_cons_zero, List.set_cons_succ])
  (refine Rr.wr_y (by simp only [List.getElem?_toArray, List.getElem?_cons_succ, List.getElem?_cons_zero]; rfl) (by rfl) ?_
   apply Exists.intro
   refine ⟨fun wz hw _ => ?_, ?_⟩
   · have hcz := hw.cells.1
     go_simp
     apply Rg.up_enter
     (with_reducible refine (H3.out _).mono ?_)
     rintro e w3 ⟨rfl, hb3⟩
     exact ⟨rfl, hb3⟩
   simp only [Act.put, List.setIfInBounds_toArray, List.set_cons_zero, List.set_cons_succ])
  (refine Rr.wr_y (by simp only [List.getElem?_toArray, List.getElem?_cons_succ, List.getElem?_cons_zero]; rfl) (by rfl) ?_
   apply Exists.intro
   refine ⟨fun wz hw _ => ?_, ?_⟩
   · have hcz := hw.cells.1
     go_simp
     (with_reducible exact Rg.up_value)
   simp only [Act.put, List.setIfInBounds_toArray, List.set_cons_zero, List.set_cons_succ])
  (refine Rr.wr_y (by simp only [List.getElem?_toArray, List.getElem?_cons_succ, List.getElem?_cons_zero]; rfl) (by rfl) ?_
   apply Exists.intro
   refine ⟨fun wz hw _ => ?_, ?_⟩
   · have hcz := hw.cells.1
     go_simp
     (with_reducible exact Rg.up_value)
   simp only [Act.put, List.setIfInBounds_toArray, List.set_cons_zero, List.set_cons_succ])
  (refine Rr.wr_y (by simp only [List.getElem?_toArray, List.getElem?_cons_succ, List.getElem?_cons_zero]; rfl) (by rfl) ?_
   apply Exists.intro
   refine ⟨fun wz hw _ => ?_, ?_⟩
   · have hcz := hw.cells.1
     go_simp
     (with_reducible exact Rg.up_value)
   simp only [Act.put, List.setIfInBounds_toArray, List.set_cons_zero, List.set_cons_succ])
  (refine Rr.wr_y (by simp only [List.getElem?_toArray, List.getElem?_cons_succ, List.getElem?_cons_zero]; rfl) (by rfl) ?_
   apply Exists.intro
   refine ⟨fun wz hw _ => ?_, ?_⟩
   · have hcz := hw.cells.1
     go_simp
     (with_reducible exact Rg.up_value)
   simp only [Act.put, List.setIfInBounds_toArray, List.set_cons_zero, List.set_cons_succ])
  (refine Rr.wr_y (by simp only [List.getElem?_toArray, List.getElem?_cons_succ, List.getElem?_cons_zero]; rfl) (by rfl) ?_
   apply Exists.intro
   refine ⟨fun wz hw _ => ?_, ?_⟩
   · have hcz := hw.cells.1
     go_simp
     apply Rg.up_enter
     (with_reducible refine (H4.out _).mono ?_)
     rintro e w3 ⟨rfl, hb3⟩
     exact ⟨rfl, hb3⟩
   simp only [Act.put, List.setIfInBounds_toArray, List.set_cons_zero, List.set_cons_succ])
  refine Rr.wr_m (by simp only [List.getElem?_toArray, List.getElem?_cons_succ, List.getElem?_cons_zero]; rfl) (by rfl) (fun wz => by go_simp) (fun p hp => ?_)
  simp only [Act.put, List.setIfInBounds_toArray, List.set_cons_zero, List.set_cons_succ]
  (refine Rr.wr_y (by simp only [List.getElem?_toArray, List.getElem?_cons_succ, List.getElem?_cons_zero]; rfl) (by rfl) ?_
   apply Exists.intro
   refine ⟨fun wz hw hh => ?_, ?_⟩
   · obtain ⟨-, hb⟩ := hh _ List.mem_cons_self
     have hl : IRd wz (.slice (some ⟨p, 0, none⟩) 4 4) [c1, c2, c3, c4] := ⟨_, _, rfl, by simp, HO.out, .inr ⟨p, 0, rfl, fun k hk => by
       rw [cell_of_row wz p _ _ _ _ hb]
       match k, hk with
       | 0, _ => rfl
       | 1, _ => rfl
       | 2, _ => rfl
       | 3, _ => rfl⟩⟩
     go_simp
     apply Rg.up_enter
     (with_reducible refine (or_any _ _ wz hl).mono ?_)
     rintro e w3 ⟨rfl, rfl⟩
     exact ⟨rfl, Ext.refl _⟩
   simp only [Act.put, List.setIfInBounds_toArray, List.set_cons_zero, List.set_cons_succ])
  refine Rr.wr_nil ?_
  intro wy hy hh
  simp only [List.length_cons, List.length_nil, List.drop_succ_cons, List.drop_zero, Nat.reduceAdd]
  go_wp2_with (fail)
  go_ret
  exact ⟨by rw [HC.out]; rfl, HX.out.trans hy⟩
instance : Inhabited Pl := ⟨⟨0, 0, ⟨#[]⟩, 0⟩⟩
theorem compare_lays (blk off size : Nat) (w : World) : CmpLays Tryz.prog 31 #[] plC 4 cmpPl blk off size w :=
  fun m os dk _ x y => (compare_any x y _).mono fun _ _ ⟨h, e⟩ => ⟨h, e.grow⟩
end Go.Proofs.YtnplnfkmcfalhaaGreatDoor.Dw
