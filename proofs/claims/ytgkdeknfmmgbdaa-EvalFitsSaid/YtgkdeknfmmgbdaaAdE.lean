/-
  The tender and the bid that numbers determine: names, tender and entry walked. Conditions: the argument's slices read as lists.
-/
import Derived.Test.YtgkdeknfmmgbdaaAdC
import Derived.Test.YtgkdeknfmmgbdaaAdS
import Derived.Laws.CopyOwn
import Derived.Deep.CutBlock
namespace Go.Proofs.Ytgkdeknfmmgbdaa
set_option linter.unusedVariables false
set_option linter.unusedSimpArgs false
open Go.RowKit

def nameC : Nat → ByteArray
  | 0 => qualB | 1 => ⟨#[100, 97, 121, 115]⟩ | 2 => ⟨#[115, 116, 97, 102, 102]⟩ | 3 => ⟨#[115, 105, 122, 101]⟩ | _ => ⟨#[111, 116, 104, 101, 114]⟩
abbrev nameCT : Array Value := #[.string qualB, .string ⟨#[100, 97, 121, 115]⟩, .string ⟨#[115, 116, 97, 102, 102]⟩, .string ⟨#[115, 105, 122, 101]⟩, .string ⟨#[111, 116, 104, 101, 114]⟩]
theorem nameCT_at {w : World} {p : Nat} (h : w.heap[p]? = some (.cells nameCT 9)) (i : Nat) (hi : i < 5) : w.cell? ⟨p, i, none⟩ = some (.string (nameC i)) := by
  rw [cell_of_row w p _ _ _ _ h]
  match i, hi with
  | 0, _ => rfl
  | 1, _ => rfl
  | 2, _ => rfl
  | 3, _ => rfl
  | 4, _ => rfl
def relC : Nat → ByteArray
  | 0 => leB | 1 => geB | 2 => leB | 3 => geB | _ => ⟨#[61, 61]⟩
abbrev relCT : Array Value := #[.string leB, .string geB, .string leB, .string geB, .string ⟨#[61, 61]⟩]
theorem relCT_at {w : World} {p : Nat} (h : w.heap[p]? = some (.cells relCT 9)) (i : Nat) (hi : i < 5) : w.cell? ⟨p, i, none⟩ = some (.string (relC i)) := by
  rw [cell_of_row w p _ _ _ _ h]
  match i, hi with
  | 0, _ => rfl
  | 1, _ => rfl
  | 2, _ => rfl
  | 3, _ => rfl
  | 4, _ => rfl

theorem Mod_ext (n m : Int) (hm : 0 < m) (hm2 : m ≤ 1000000) (h1 : -9223372036854775808 ≤ n) (h2 : n ≤ 9223372036854775807) (w : World) :
    Calls Try.prog 39 #[.int .i64 n, .int .i64 m] w fun e w' => e = .returned (.int .i64 (modZ n m)) ∧ Ext w w' :=
  (Mod_any n m hm hm2 h1 h2 w).mono fun e w' ⟨h1, h2⟩ => ⟨h1, h2 ▸ Ext.refl w⟩
set_option maxHeartbeats 400000 in
theorem names_any (n : Int) (h1 : -9223372036854775808 ≤ n) (h2 : n ≤ 9223372036854775807) (w : World) :
    Calls Try.prog 64 #[.int .i64 n] w fun e w' => e = .returned (.string (nameC (modZ n 5).toNat)) ∧ Ext w w' := by
  have HM := Lib.hid (Mod_any n 5 (by omega) (by omega) h1 h2)
  obtain ⟨b0, b1⟩ := modZ_bd n (m := 5) (by omega)
  generalize modZ n 5 = z at *
  have ht := nameCT_at (block_new (w := w) (o := .cells nameCT 9) rfl) z.toNat (by omega)
  go_enter Try.func64, Try.ntmps64
  go_wp2_with (go_at_call 39; (with_reducible refine (HM.out _).mono ?_); rintro e w5 ⟨rfl, rfl⟩)
  go_ret
  exact ⟨rfl, (by with_reducible repeat (first | exact Ext.refl _ | assumption | apply Ext.drewN | apply Ext.drew | apply Ext.alloc | (refine Ext.setCell ?_ (by simp <;> omega) _) | (refine Ext.trans ?_ (by assumption))))⟩

/-- The slice v reads as rows of two ints, of three ints. -/
def R2d (w : World) (v : Value) (ls : List (Int × Int)) : Prop :=
  ∃ A cap, v = .slice A ls.length cap ∧ ls.length ≤ 9223372036854775807 ∧ (∀ z ∈ ls, (-9223372036854775808 ≤ z.1 ∧ z.1 ≤ 9223372036854775807) ∧ -9223372036854775808 ≤ z.2 ∧ z.2 ≤ 9223372036854775807) ∧
    (ls = [] ∨ ∃ b off, A = some ⟨b, off, none⟩ ∧ ∀ k (h : k < ls.length), w.cell? ⟨b, off + k * 2, none⟩ = some (.int .i64 ls[k].1) ∧ w.cell? ⟨b, off + k * 2 + 1, none⟩ = some (.int .i64 ls[k].2))
def R3d (w : World) (v : Value) (ls : List (Int × Int × Int)) : Prop :=
  ∃ A cap, v = .slice A ls.length cap ∧ ls.length ≤ 9223372036854775807 ∧ (∀ z ∈ ls, (-9223372036854775808 ≤ z.1 ∧ z.1 ≤ 9223372036854775807) ∧ (-9223372036854775808 ≤ z.2.1 ∧ z.2.1 ≤ 9223372036854775807) ∧ -9223372036854775808 ≤ z.2.2 ∧ z.2.2 ≤ 9223372036854775807) ∧
    (ls = [] ∨ ∃ b off, A = some ⟨b, off, none⟩ ∧ ∀ k (h : k < ls.length), w.cell? ⟨b, off + k * 3, none⟩ = some (.int .i64 ls[k].1) ∧ w.cell? ⟨b, off + k * 3 + 1, none⟩ = some (.int .i64 ls[k].2.1) ∧ w.cell? ⟨b, off + k * 3 + 2, none⟩ = some (.int .i64 ls[k].2.2))
theorem R2d.ext {w w' : World} {v : Value} {ls : List (Int × Int)} (h : R2d w v ls) (e : Ext w w') : R2d w' v ls := by
  obtain ⟨A, cap, h1, h2, h3, h4⟩ := h
  exact ⟨A, cap, h1, h2, h3, h4.imp id fun ⟨b, off, ha, hc⟩ => ⟨b, off, ha, fun k hk => ⟨(e.cells.1 _ _ (World.block_lt_of_cell? w _ (hc k hk).1)).trans (hc k hk).1, (e.cells.1 _ _ (World.block_lt_of_cell? w _ (hc k hk).1)).trans (hc k hk).2⟩⟩⟩
theorem R3d.ext {w w' : World} {v : Value} {ls : List (Int × Int × Int)} (h : R3d w v ls) (e : Ext w w') : R3d w' v ls := by
  obtain ⟨A, cap, h1, h2, h3, h4⟩ := h
  exact ⟨A, cap, h1, h2, h3, h4.imp id fun ⟨b, off, ha, hc⟩ => ⟨b, off, ha, fun k hk => ⟨(e.cells.1 _ _ (World.block_lt_of_cell? w _ (hc k hk).1)).trans (hc k hk).1, (e.cells.1 _ _ (World.block_lt_of_cell? w _ (hc k hk).1)).trans (hc k hk).2.1, (e.cells.1 _ _ (World.block_lt_of_cell? w _ (hc k hk).1)).trans (hc k hk).2.2⟩⟩⟩

abbrev casC (ls : Sl) (low high : Int) (cs rs : Sl) (lot price : Int) (vs : Sl) : Array Value := #[slV ls, .int .i64 low, .int .i64 high, slV cs, slV rs, .int .i64 lot, .int .i64 price, slV vs]
abbrev nilS : Sl := (none, 0, 0)
abbrev tnv (x y z : Sl) (low high : Int) : TnR := ⟨nilB, x, y, z, low, high, nilB, 0, 0, nilB, nilS, nilS, 0, nilS, 0, 0, 0, 0, 0, 0⟩

def lotN : Nat → List Int → List (Int × Int)
  | _, [] => []
  | k, z :: zs => ((k : Int) % 4 + 1, z) :: lotN (k + 1) zs
def crN : Nat → List (Int × Int) → List Cr
  | _, [] => []
  | k, z :: zs => ⟨nameC (modZ k 5).toNat, 0, z.1, z.2, false⟩ :: crN (k + 1) zs
def rqN (l : List (Int × Int × Int)) : List Rq := l.map fun z => ⟨nameC (modZ z.1 5).toNat, relC (modZ z.2.1 5).toNat, z.2.2⟩
def vlN (l : List (Int × Int)) : Vals := l.map fun z => (nameC (modZ z.1 5).toNat, z.2)
theorem lotN_snoc (k : Nat) (l : List Int) (z : Int) : lotN k (l ++ [z]) = lotN k l ++ [(((k + l.length : Nat) : Int) % 4 + 1, z)] := by
  induction l generalizing k with
  | nil => rfl
  | cons a l ih => simp only [List.cons_append, lotN, ih, List.length_cons]; rw [show k + 1 + l.length = k + (l.length + 1) by omega]
theorem crN_snoc (k : Nat) (l : List (Int × Int)) (z : Int × Int) : crN k (l ++ [z]) = crN k l ++ [⟨nameC (modZ (k + l.length : Nat) 5).toNat, 0, z.1, z.2, false⟩] := by
  induction l generalizing k with
  | nil => rfl
  | cons a l ih => simp only [List.cons_append, crN, ih, List.length_cons]; rw [show k + 1 + l.length = k + (l.length + 1) by omega]
theorem lotN_length (k : Nat) (l : List Int) : (lotN k l).length = l.length := by
  induction l generalizing k with
  | nil => rfl
  | cons a l ih => simp [lotN, ih]
theorem crN_length (k : Nat) (l : List (Int × Int)) : (crN k l).length = l.length := by
  induction l generalizing k with
  | nil => rfl
  | cons a l ih => simp [crN, ih]
theorem row_keep {B E sz n : Nat} {w w' : World} {v : Value} {xs : List Value} (ho : w.ownsRow B E sz v n xs) (h : ∀ g, B ≤ g → w'.heap[g]? = w.heap[g]?) : w'.ownsRow B E sz v n xs := by
  refine ⟨ho.1, ?_⟩
  rcases ho.2 with hn | ⟨g, cap, cur, hv, hb, hg, rest⟩
  · exact .inl hn
  · exact .inr ⟨g, cap, cur, hv, hb, (h g hb).trans hg, rest⟩

theorem row_keep' {B E sz n : Nat} {w w' : World} {v : Value} {xs : List Value} (ho : w.ownsRow B E sz v n xs) (h : ∀ g, B ≤ g → g < w.heap.size → w'.heap[g]? = w.heap[g]?) : w'.ownsRow B E sz v n xs := by
  refine ⟨ho.1, ?_⟩
  rcases ho.2 with hn | ⟨g, cap, cur, hv, hb, hg, rest⟩
  · exact .inl hn
  · exact .inr ⟨g, cap, cur, hv, hb, (h g hb (Rg.lt_of_heap hg)).trans hg, rest⟩
/-- Of what was there, only the block p has turned. -/
def KeepBut (p : Nat) (w w' : World) : Prop := w.heap.size ≤ w'.heap.size ∧ ∀ g, g < w.heap.size → ¬ g = p → w'.heap[g]? = w.heap[g]?
theorem KeepBut.refl (p : Nat) (w : World) : KeepBut p w w := ⟨Nat.le_refl _, fun _ _ _ => rfl⟩
theorem KeepBut.step {p : Nat} {w w1 w2 w3 : World} (h : KeepBut p w w1) (e : Ext w1 w2) (b : Below w.heap.size w2 w3) (i : Nat) (v : Value) : KeepBut p w (w3.setCell ⟨p, i, none⟩ v) := by
  refine ⟨?_, fun g hg hp => ?_⟩
  · rw [show (w3.setCell ⟨p, i, none⟩ v).heap.size = w3.heap.size by simp [World.setCell]]; exact Nat.le_trans h.1 (Nat.le_trans e.size b.size)
  · rw [heap_setCell_other _ _ _ _ hp, b.block g hg, e.block g (Nat.lt_of_lt_of_le hg h.1), h.2 g hg hp]
theorem ccells {w : World} {p : Nat} {ls cs rs vs : Sl} {low high lot price : Int} (h : w.heap[p]? = some (.cells (casC ls low high cs rs lot price vs) 77)) :
    w.cell? ⟨p, 0, none⟩ = some (slV ls) ∧ w.cell? ⟨p, 1, none⟩ = some (.int .i64 low) ∧ w.cell? ⟨p, 2, none⟩ = some (.int .i64 high) ∧ w.cell? ⟨p, 3, none⟩ = some (slV cs) ∧ w.cell? ⟨p, 4, none⟩ = some (slV rs) ∧
    w.cell? ⟨p, 5, none⟩ = some (.int .i64 lot) ∧ w.cell? ⟨p, 6, none⟩ = some (.int .i64 price) ∧ w.cell? ⟨p, 7, none⟩ = some (slV vs) ∧ p < w.heap.size := by
  obtain ⟨hc, -, hl⟩ := Rg.cells_of h
  exact ⟨hc 0, hc 1, hc 2, hc 3, hc 4, hc 5, hc 6, hc 7, hl⟩
theorem ten_one (r : TnR) : ∀ v ∈ (tenC r).toList, v.oneCell' = true := by
  intro v hv
  simp at hv
  rcases hv with rfl | rfl | rfl | rfl | rfl | rfl | rfl | rfl | rfl | rfl | rfl | rfl | rfl | rfl | rfl | rfl | rfl | rfl | rfl | rfl <;> rfl
theorem tfree {w : World} {p : Nat} {r : TnR} (h : w.heap[p]? = some (.cells (tenC r) 68)) : ∀ i, w.frozen? ⟨p, i, none⟩ = false := (Rg.cells_of h).2.1
def TL1 (W1 W2 : World) (pt : Nat) (low high : Int) (ls : List Int) (k : Value) (wr : World) : Prop :=
  ∃ (j : Nat) (x : Sl), k = .int .i64 j ∧ j ≤ ls.length ∧ j ≤ 5 ∧ wr.heap[pt]? = some (.cells (tenC (tnv x nilS nilS low high)) 68) ∧ wr.ownsRow W2.heap.size 83 2 (slV x) (lotN 0 (ls.take j)).length ((lotN 0 (ls.take j)).flatMap cellsLot) ∧ KeepBut pt W2 wr ∧ Ext W1 wr
def TL2 (W1 W2 : World) (pt : Nat) (low high : Int) (x : Sl) (cs : List (Int × Int)) (k : Value) (wr : World) : Prop :=
  ∃ (j : Nat) (y : Sl), k = .int .i64 j ∧ j ≤ cs.length ∧ j ≤ 4 ∧ wr.heap[pt]? = some (.cells (tenC (tnv x y nilS low high)) 68) ∧ wr.ownsRow W2.heap.size 85 5 (slV y) (crN 0 (cs.take j)).length ((crN 0 (cs.take j)).flatMap cellsCr) ∧ KeepBut pt W2 wr ∧ Ext W1 wr
def TL3 (W1 W2 : World) (pt : Nat) (low high : Int) (x y : Sl) (rs : List (Int × Int × Int)) (k : Value) (wr : World) : Prop :=
  ∃ (j : Nat) (z : Sl), k = .int .i64 j ∧ j ≤ rs.length ∧ j ≤ 4 ∧ wr.heap[pt]? = some (.cells (tenC (tnv x y z low high)) 68) ∧ wr.ownsRow W2.heap.size 108 3 (slV z) (rqN (rs.take j)).length ((rqN (rs.take j)).flatMap cellsRq) ∧ KeepBut pt W2 wr ∧ Ext W1 wr
set_option maxRecDepth 100000 in
set_option maxHeartbeats 4000000 in
theorem tender_any (ls : List Int) (low high : Int) (cs : List (Int × Int)) (rs : List (Int × Int × Int)) (lot price : Int) (x0 x1 x2 x3 : Sl) (w : World) (h0 : IRd w (slV x0) ls) (h1 : R2d w (slV x1) cs) (h2 : R3d w (slV x2) rs) :
    Calls Try.prog 36 #[.agg (casC x0 low high x1 x2 lot price x3)] w fun e w' => ∃ x y z, e = .returned (.agg (tenC (tnv x y z low high))) ∧ Ext w w' ∧
      SR cellsLot 2 w' (slV x) (lotN 0 (ls.take 5)) ∧ SR cellsCr 5 w' (slV y) (crN 0 (cs.take 4)) ∧ SR cellsRq 3 w' (slV z) (rqN (rs.take 4)) := by
  obtain ⟨a0, l0, c0⟩ := x0
  obtain ⟨a1, l1, c1⟩ := x1
  obtain ⟨a2, l2, c2⟩ := x2
  obtain rfl : l0 = ls.length := by obtain ⟨_, _, h, -⟩ := h0; injection h
  obtain rfl : l1 = cs.length := by obtain ⟨_, _, h, -⟩ := h1; injection h
  obtain rfl : l2 = rs.length := by obtain ⟨_, _, h, -⟩ := h2; injection h
  have hle0 : (ls.length : Int) ≤ 9223372036854775807 := by obtain ⟨_, _, -, h, -⟩ := h0; omega
  have hle1 : (cs.length : Int) ≤ 9223372036854775807 := by obtain ⟨_, _, -, h, -⟩ := h1; omega
  have hle2 : (rs.length : Int) ≤ 9223372036854775807 := by obtain ⟨_, _, -, h, -⟩ := h2; omega
  have H0 := Lib.hid h0
  have H1 := Lib.hid h1
  have H2 := Lib.hid h2
  have H2r := Lib.hid (show ∀ z ∈ rs, (-9223372036854775808 ≤ z.1 ∧ z.1 ≤ 9223372036854775807) ∧ (-9223372036854775808 ≤ z.2.1 ∧ z.2.1 ≤ 9223372036854775807) ∧ -9223372036854775808 ≤ z.2.2 ∧ z.2.2 ≤ 9223372036854775807 by obtain ⟨_, _, -, -, h, -⟩ := h2; exact h)
  clear h0 h1 h2
  go_enter Try.func36, Try.ntmps36
  go_upto_region 1 with (fail)
  have hx1 : Ext w ((w.alloc (.cells (casC (a0, ls.length, c0) low high (a1, cs.length, c1) (a2, rs.length, c2) lot price x3) 77)).alloc (.cells (tenC (tnv nilS nilS nilS 0 0)) 68)) := (by with_reducible repeat (first | exact Ext.refl _ | assumption | apply Ext.drewN | apply Ext.drew | apply Ext.alloc | (refine Ext.setCell ?_ (by simp <;> omega) _) | (refine Ext.trans ?_ (by assumption))))
  have hC : ((w.alloc (.cells (casC (a0, ls.length, c0) low high (a1, cs.length, c1) (a2, rs.length, c2) lot price x3) 77)).alloc (.cells (tenC (tnv nilS nilS nilS 0 0)) 68)).heap[w.heap.size]? = some (.cells (casC (a0, ls.length, c0) low high (a1, cs.length, c1) (a2, rs.length, c2) lot price x3) 77) := by
    rw [Below.heap_alloc _ _ _ (by simp)]; exact block_new rfl
  have hR : ((w.alloc (.cells (casC (a0, ls.length, c0) low high (a1, cs.length, c1) (a2, rs.length, c2) lot price x3) 77)).alloc (.cells (tenC (tnv nilS nilS nilS 0 0)) 68)).heap[w.heap.size + 1]? = some (.cells (tenC (tnv nilS nilS nilS 0 0)) 68) := block_new (by simp)
  have hp1 : w.heap.size ≤ w.heap.size := Nat.le_refl _
  have hp2 : w.heap.size ≤ w.heap.size + 1 := by omega
  have hw1 : ((w.alloc (.cells (casC (a0, ls.length, c0) low high (a1, cs.length, c1) (a2, rs.length, c2) lot price x3) 77)).alloc (.cells (tenC (tnv nilS nilS nilS 0 0)) 68)).heap.size = w.heap.size + 1 + 1 := by simp
  change Code.wp _ _ _ _ ((w.alloc (.cells (casC (a0, ls.length, c0) low high (a1, cs.length, c1) (a2, rs.length, c2) lot price x3) 77)).alloc (.cells (tenC (tnv nilS nilS nilS 0 0)) 68))
  generalize (w.alloc (.cells (casC (a0, ls.length, c0) low high (a1, cs.length, c1) (a2, rs.length, c2) lot price x3) 77)).alloc (.cells (tenC (tnv nilS nilS nilS 0 0)) 68) = W1 at *
  generalize hpr : w.heap.size + 1 = pr at *
  generalize hpc : w.heap.size = pc at *
  have Hpr := Lib.hid hpr
  have Hpc := Lib.hid hpc
  have Hw1 := Lib.hid hw1
  obtain ⟨q0, q1, q2, q3, q4, -, -, -, ql⟩ := ccells hC
  replace q0 : _ = some (Value.slice a0 ls.length c0) := q0
  replace q3 : _ = some (Value.slice a1 cs.length c1) := q3
  replace q4 : _ = some (Value.slice a2 rs.length c2) := q4
  have HC := Lib.hid hC
  have HR := Lib.hid hR
  clear hC hR hpr hpc hw1
  have hB : ((W1.alloc (.cells (tenC (tnv nilS nilS nilS 0 0)) 68)).setRow W1.heap.size (tenC (tnv nilS nilS nilS low high))).heap[W1.heap.size]? = some (.cells (tenC (tnv nilS nilS nilS low high)) 68) :=
    setRow_heap _ _ (tenC (tnv nilS nilS nilS 0 0)) _ 68 _ (block_new rfl)
  have hx2 : Ext W1 ((W1.alloc (.cells (tenC (tnv nilS nilS nilS 0 0)) 68)).setRow W1.heap.size (tenC (tnv nilS nilS nilS low high))) := below_setRow ((by with_reducible repeat (first | exact Ext.refl _ | assumption | apply Ext.drewN | apply Ext.drew | apply Ext.alloc | (refine Ext.setCell ?_ (by simp <;> omega) _) | (refine Ext.trans ?_ (by assumption)))) : Ext W1 (W1.alloc (.cells (tenC (tnv nilS nilS nilS 0 0)) 68))) (Nat.le_refl _) _
  have hs2 : ((W1.alloc (.cells (tenC (tnv nilS nilS nilS 0 0)) 68)).setRow W1.heap.size (tenC (tnv nilS nilS nilS low high))).heap.size = W1.heap.size + 1 := by simp
  have HT := Lib.hid hB
  have Hs2 := Lib.hid hs2
  clear hB hs2
  go_upto_region 2 with (refine wpList_store_row (hgd := rfl) 68 (.tmp 3) (.tmp 11) rfl W1.heap.size (by rfl) (tenC (tnv nilS nilS nilS low high)) (by rfl) (tenC (tnv nilS nilS nilS 0 0)) 68 (block_new rfl) (by rfl) (by kernel_rfl) (ten_one _) ?_)
  generalize (W1.alloc (.cells (tenC (tnv nilS nilS nilS 0 0)) 68)).setRow W1.heap.size (tenC (tnv nilS nilS nilS low high)) = W2 at *
  have hpt : W1.heap.size ≤ W1.heap.size := Nat.le_refl _
  generalize hptE : W1.heap.size = pt at *
  have HptE := Lib.hid hptE
  clear hptE
  go_upto_block 0 with (fail)
  go_cut [4] (fun s4 wx => ∃ x, wx.heap[pt]? = some (.cells (tenC (tnv x nilS nilS low high)) 68) ∧ wx.ownsRow W2.heap.size 83 2 (slV x) (lotN 0 (ls.take 5)).length ((lotN 0 (ls.take 5)).flatMap cellsLot) ∧ Ext W1 wx)
  case first =>
    go_wp2_with (fail)
    go_loopw [4] (fun k wr => TL1 W1 W2 pt low high ls k wr) (fun k _ => 5 - (intOf k).toNat)
    case atStart =>
      unfold TL1
      exact ⟨0, nilS, by go_num, Nat.zero_le _, by omega, HT.out, World.ownsRow_nil W2 _ 83 2, KeepBut.refl _ _, hx2⟩
    case round =>
      unfold TL1 at hrel
      obtain ⟨j, ⟨xa, xl, xc⟩, rfl, hj, hj5, hT, hF, hK, hx⟩ := hrel
      have HF := Lib.hid hF
      have HTr := Lib.hid hT
      have HK := Lib.hid hK
      obtain ⟨u1, -, -, -, -, ul⟩ := tcells hT
      replace u1 : _ = some (Value.slice xa xl xc) := u1
      have s0 := (hx.cells.1 _ _ (by have := HptE.out; omega)).trans q0
      have sl : pc < wr.heap.size := by have := hx.size; have := HptE.out; omega
      clear hF hT hK
      have hlv : (lotN 0 (ls.take j)).length = j := by rw [lotN_length, List.length_take]; omega
      by_cases hgo : j < ls.length ∧ j < 5
      · obtain ⟨hlt, h5⟩ := hgo
        obtain ⟨A, cap, hA, -, -, hc⟩ := H0.out
        injection hA with hA _ hcap
        subst hA hcap
        obtain ⟨b, off, rfl, hcc⟩ := hc.resolve_left (by intro e; rw [e] at hlt; simp at hlt)
        have hcj := hcc j hlt
        have hbw := World.block_lt_of_cell? w _ hcj
        have hcr := ((hx1.trans hx).cells.1 _ _ hbw).trans hcj
        have hbr := Nat.lt_of_lt_of_le hbw (hx1.trans hx).size
        have HS := Lib.hid (show lotN 0 (ls.take (j + 1)) = lotN 0 (ls.take j) ++ [((j : Int) % 4 + 1, ls[j])] by
          rw [List.take_add_one, List.getElem?_eq_getElem hlt, Option.toList_some, lotN_snoc, List.length_take, show 0 + min j ls.length = j by omega])
        have HL := Lib.hid hlv
        generalize lotN 0 (ls.take j) = st at *
        generalize ls[j] = z at *
        have kt : ((j : Int)).tmod 4 = (j : Int) % 4 := Int.tmod_eq_emod_of_nonneg (by omega)
        have k0 : 0 ≤ (j : Int) % 4 := by omega
        have k1 : (j : Int) % 4 < 4 := by omega
        have k6 : (j : Int) < 5 := by omega
        have k7 : (j : Int) < (ls.length : Int) := by omega
        have kw : IntKind.i64.wrap ((j : Int) % 4 + 1) = (j : Int) % 4 + 1 := by rw [IntKind.wrap_i64]; omega
        clear hlv hcj hc hcc
        go_wp2_with (fail)
        refine Rr.wp_region [(0, .y), (1, .y), (2, .y), (3, .y), (4, .y), (5, .y), (6, .y), (7, .y), (8, .y), (9, .y), (10, .y), (11, .m)] (fun _ => (.cells #[.int .i64 ((j : Int) % 4 + 1), .int .i64 z] 83, fun p => .slice (some ⟨p, 0, none⟩) 1 1)) (by kernel_rfl) (by kernel_rfl) ?_
        (refine Rr.wr_y (by simp only [List.getElem?_toArray, List.getElem?_cons_succ, List.getElem?_cons_zero]; rfl) (by rfl) ?_
         apply Exists.intro
         refine ⟨fun wz hw _ => ?_, ?_⟩
         · have hcz := hw.cells.1
           go_simp
           (with_reducible exact Rg.up_value)
         simp only [Act.put, List.setIfInBounds_toArray, List.set_cons_zero, List.set_cons_succ])
        (refine Rr.wr_y (by simp only [List.getElem?_toArray, List.getElem?_cons_succ, List.getElem?_cons_zero]; rfl) (by rfl) ?_
         apply Exists.intro
         refine ⟨fun wz hw _ => ?_, ?_⟩
         · have hcz := hw.cells.1
           go_simp
           (with_reducible exact Rg.up_value)
         simp only [Act.put, List.setIfInBounds_toArray, List.set_cons_zero, List.set_cons_succ])
        (refine Rr.wr_y (by simp only [List.getElem?_toArray, List.getElem?_cons_succ, List.getElem?_cons_zero]; rfl) (by rfl) ?_
         apply Exists.intro
         refine ⟨fun wz hw _ => ?_, ?_⟩
         · have hcz := hw.cells.1
           go_simp
           (with_reducible exact Rg.up_value)
         simp only [Act.put, List.setIfInBounds_toArray, List.set_cons_zero, List.set_cons_succ])
        (refine Rr.wr_y (by simp only [List.getElem?_toArray, List.getElem?_cons_succ, List.getElem?_cons_zero]; rfl) (by rfl) ?_
         apply Exists.intro
         refine ⟨fun wz hw _ => ?_, ?_⟩
         · have hcz := hw.cells.1
           go_simp
           (with_reducible exact Rg.up_value)
         simp only [Act.put, List.setIfInBounds_toArray, List.set_cons_zero, List.set_cons_succ])
        (refine Rr.wr_y (by simp only [List.getElem?_toArray, List.getElem?_cons_succ, List.getElem?_cons_zero]; rfl) (by rfl) ?_
         apply Exists.intro
         refine ⟨fun wz hw _ => ?_, ?_⟩
         · have hcz := hw.cells.1
           go_simp
           (with_reducible exact Rg.up_value)
         simp only [Act.put, List.setIfInBounds_toArray, List.set_cons_zero, List.set_cons_succ])
        (refine Rr.wr_y (by simp only [List.getElem?_toArray, List.getElem?_cons_succ, List.getElem?_cons_zero]; rfl) (by rfl) ?_
         apply Exists.intro
         refine ⟨fun wz hw _ => ?_, ?_⟩
         · have hcz := hw.cells.1
           go_simp
           (with_reducible exact Rg.up_value)
         simp only [Act.put, List.setIfInBounds_toArray, List.set_cons_zero, List.set_cons_succ])
        (refine Rr.wr_y (by simp only [List.getElem?_toArray, List.getElem?_cons_succ, List.getElem?_cons_zero]; rfl) (by rfl) ?_
         apply Exists.intro
         refine ⟨fun wz hw _ => ?_, ?_⟩
         · have hcz := hw.cells.1
           go_simp
           (with_reducible exact Rg.up_value)
         simp only [Act.put, List.setIfInBounds_toArray, List.set_cons_zero, List.set_cons_succ])
        (refine Rr.wr_y (by simp only [List.getElem?_toArray, List.getElem?_cons_succ, List.getElem?_cons_zero]; rfl) (by rfl) ?_
         apply Exists.intro
         refine ⟨fun wz hw _ => ?_, ?_⟩
         · have hcz := hw.cells.1
           go_simp
           (with_reducible exact Rg.up_value)
         simp only [Act.put, List.setIfInBounds_toArray, List.set_cons_zero, List.set_cons_succ])
        (refine Rr.wr_y (by simp only [List.getElem?_toArray, List.getElem?_cons_succ, List.getElem?_cons_zero]; rfl) (by rfl) ?_
         apply Exists.intro
         refine ⟨fun wz hw _ => ?_, ?_⟩
         · have hcz := hw.cells.1
           go_simp
           (with_reducible exact Rg.up_value)
         simp only [Act.put, List.setIfInBounds_toArray, List.set_cons_zero, List.set_cons_succ])
        (refine Rr.wr_y (by simp only [List.getElem?_toArray, List.getElem?_cons_succ, List.getElem?_cons_zero]; rfl) (by rfl) ?_
         apply Exists.intro
         refine ⟨fun wz hw _ => ?_, ?_⟩
         · have hcz := hw.cells.1
           go_simp
           (with_reducible exact Rg.up_value)
         simp only [Act.put, List.setIfInBounds_toArray, List.set_cons_zero, List.set_cons_succ])
        (refine Rr.wr_y (by simp only [List.getElem?_toArray, List.getElem?_cons_succ, List.getElem?_cons_zero]; rfl) (by rfl) ?_
         apply Exists.intro
         refine ⟨fun wz hw _ => ?_, ?_⟩
         · have hcz := hw.cells.1
           go_simp
           (with_reducible exact Rg.up_value)
         simp only [Act.put, List.setIfInBounds_toArray, List.set_cons_zero, List.set_cons_succ])
        refine Rr.wr_m (by simp only [List.getElem?_toArray, List.getElem?_cons_succ, List.getElem?_cons_zero]; rfl) (by rfl) (fun wz => by go_simp) (fun p hp => ?_)
        simp only [Act.put, List.setIfInBounds_toArray, List.set_cons_zero, List.set_cons_succ]
        refine Rr.wr_nil ?_
        intro wy hy hh
        have hbl := hh _ List.mem_cons_self
        obtain ⟨hb1, hb2⟩ := hbl
        simp only [List.length_cons, List.length_nil, List.drop_succ_cons, List.drop_zero, Nat.reduceAdd]
        have HP := Lib.hid hb2
        clear hh hb2
        refine append_one one_lot 61 83 16 Try.underlying61 info83 rfl (by decide) (by decide) rfl (.tmp 24) (.tmp 34) rfl W2.heap.size (.slice xa xl xc) st (by rfl) (row_ext HF.out hy) p ((j : Int) % 4 + 1, z) (by rfl) HP.out (by have := HL.out; omega) (by have := HK.out.1; have := hy.size; omega) ?_
        intro g' cap' w6 hF6 hb6
        have HF6 := Lib.hid hF6
        have HT6 := Lib.hid ((hb6.block pt (by have := Hs2.out; omega)).trans ((hy.block pt ul).trans HTr.out))
        obtain ⟨v1, -, -, -, -, vl⟩ := tcells HT6.out
        replace v1 : _ = some (Value.slice xa xl xc) := v1
        have vf := tfree HT6.out 1
        clear hF6 u1 s0
        go_wp2
        go_roundw
        case rel =>
          unfold TL1
          refine ⟨j + 1, (some ⟨g', 0, none⟩, st.length + 1, cap'), by go_num, by omega, by omega, heap_setCell_same w6 pt 1 _ 68 _ HT6.out, ?_, HK.out.step hy hb6 1 _, ?_⟩
          · rw [HS.out]
            exact row_keep HF6.out (fun g hg => heap_setCell_other _ _ _ _ (by have := Hs2.out; show g ≠ pt; omega))
          · exact Below.setCell (Below.trans (hx.trans hy) (hb6.mono (by have := Hs2.out; have := HptE.out; omega))) (by have := HptE.out; show _ ≤ pt; omega) _
        case measure => simp [intOf]; omega
      · have ht : ls.take 5 = ls.take j := by
          rcases Nat.lt_or_ge j 5 with h | h
          · rw [List.take_of_length_le (by omega), List.take_of_length_le (by omega)]
          · rw [show j = 5 by omega]
        have HX := Lib.hid (show _ ∧ _ ∧ _ from ⟨HTr.out, HF.out, hx⟩)
        rw [← ht] at HX
        rcases (show ((j : Int) < (ls.length : Int) ∧ ¬ (j : Int) < 5) ∨ ¬ (j : Int) < (ls.length : Int) by omega) with ⟨h1, h2⟩ | h1
        all_goals
          go_wp2
          go_meet
          case rel => exact ⟨_, HX.out⟩
  case rest =>
    obtain ⟨x, hT, hF, hxd⟩ := hcut
    have HTd := Lib.hid hT
    have HFx := Lib.hid hF
    have htl := Rg.lt_of_heap hT
    have Hs2' := Lib.hid Hs2.out
    have HB1 : Hid (pt < W2.heap.size) := Lib.hid (by have := Hs2.out; omega)
    clear hT hF Hs2 HT
    obtain ⟨B1, hB1⟩ : ∃ B1, B1 = W2.heap.size := ⟨_, rfl⟩
    rw [← hB1] at HFx HB1 Hs2'
    clear hB1 hx2
    obtain ⟨W2', rfl⟩ : ∃ W2' : World, W2' = W2 := ⟨_, rfl⟩
    clear W2'
    obtain ⟨W2, rfl⟩ : ∃ W2 : World, W2 = wc := ⟨_, rfl⟩
    go_upto_block 2 with (fail)
    go_cut [5] (fun s5 wx => ∃ y, wx.heap[pt]? = some (.cells (tenC (tnv x y nilS low high)) 68) ∧ wx.ownsRow W2.heap.size 85 5 (slV y) (crN 0 (cs.take 4)).length ((crN 0 (cs.take 4)).flatMap cellsCr) ∧ KeepBut pt W2 wx ∧ Ext W1 wx)
    case first =>
      go_wp2_with (fail)
      go_loopw [5] (fun k wr => TL2 W1 W2 pt low high x cs k wr) (fun k _ => 4 - (intOf k).toNat)
      case atStart =>
        unfold TL2
        exact ⟨0, nilS, by go_num, Nat.zero_le _, by omega, HTd.out, World.ownsRow_nil W2 _ 85 5, KeepBut.refl _ _, hxd⟩
      case round =>
        unfold TL2 at hrel
        obtain ⟨j, ⟨xa, xl, xc⟩, rfl, hj, hj5, hT, hF, hK, hx⟩ := hrel
        have HF := Lib.hid hF
        have HTr := Lib.hid hT
        have HK := Lib.hid hK
        obtain ⟨-, u1, -, -, -, ul⟩ := tcells hT
        replace u1 : _ = some (Value.slice xa xl xc) := u1
        have s0 := (hx.cells.1 _ _ (by have := HptE.out; omega)).trans q3
        have sl : pc < wr.heap.size := by have := hx.size; have := HptE.out; omega
        clear hF hT hK
        have hlv : (crN 0 (cs.take j)).length = j := by rw [crN_length, List.length_take]; omega
        by_cases hgo : j < cs.length ∧ j < 4
        · obtain ⟨hlt, h5⟩ := hgo
          obtain ⟨A, cap, hA, -, -, hc⟩ := H1.out
          injection hA with hA _ hcap
          subst hA hcap
          obtain ⟨b, off, rfl, hcc⟩ := hc.resolve_left (by intro e; rw [e] at hlt; simp at hlt)
          have hc0 := (hcc j hlt).1
          have hc1 := (hcc j hlt).2
          have hbw := World.block_lt_of_cell? w _ hc0
          have hcr0 := ((hx1.trans hx).cells.1 _ _ hbw).trans hc0
          have hcr1 := ((hx1.trans hx).cells.1 _ _ hbw).trans hc1
          have hbr := Nat.lt_of_lt_of_le hbw (hx1.trans hx).size
          have HS := Lib.hid (show crN 0 (cs.take (j + 1)) = crN 0 (cs.take j) ++ [⟨nameC (modZ (j : Int) 5).toNat, 0, cs[j].1, cs[j].2, false⟩] by
            rw [List.take_add_one, List.getElem?_eq_getElem hlt, Option.toList_some, crN_snoc, List.length_take, show 0 + min j cs.length = j by omega])
          have HN := Lib.hid (names_any (j : Int) (by omega) (by omega))
          generalize nameC (modZ (j : Int) 5).toNat = nmz at *
          have HL := Lib.hid hlv
          generalize crN 0 (cs.take j) = st at *
          generalize cs[j] = z at *
          obtain ⟨z1, z2⟩ := z
          have k6 : (j : Int) < 4 := by omega
          have k7 : (j : Int) < (cs.length : Int) := by omega
          clear hlv hc0 hc1 hc hcc
          go_wp2_with (fail)
          refine Rr.wp_region [(0, .y), (1, .y), (2, .y), (3, .y), (4, .y), (5, .y), (6, .y), (7, .y), (8, .y), (9, .y), (10, .y), (11, .y), (12, .y), (13, .y), (14, .y), (15, .y), (16, .y), (17, .m)] (fun _ => (.cells #[.string nmz, .int .i64 0, .int .i64 z1, .int .i64 z2, .bool false] 85, fun p => .slice (some ⟨p, 0, none⟩) 1 1)) (by kernel_rfl) (by kernel_rfl) ?_
          (refine Rr.wr_y (by simp only [List.getElem?_toArray, List.getElem?_cons_succ, List.getElem?_cons_zero]; rfl) (by rfl) ?_
           apply Exists.intro
           refine ⟨fun wz hw _ => ?_, ?_⟩
           · have hcz := hw.cells.1
             go_simp
             (with_reducible exact Rg.up_value)
           simp only [Act.put, List.setIfInBounds_toArray, List.set_cons_zero, List.set_cons_succ])
          (refine Rr.wr_y (by simp only [List.getElem?_toArray, List.getElem?_cons_succ, List.getElem?_cons_zero]; rfl) (by rfl) ?_
           apply Exists.intro
           refine ⟨fun wz hw _ => ?_, ?_⟩
           · have hcz := hw.cells.1
             go_simp
             (with_reducible exact Rg.up_value)
           simp only [Act.put, List.setIfInBounds_toArray, List.set_cons_zero, List.set_cons_succ])
          (refine Rr.wr_y (by simp only [List.getElem?_toArray, List.getElem?_cons_succ, List.getElem?_cons_zero]; rfl) (by rfl) ?_
           apply Exists.intro
           refine ⟨fun wz hw _ => ?_, ?_⟩
           · have hcz := hw.cells.1
             go_simp
             (with_reducible exact Rg.up_value)
           simp only [Act.put, List.setIfInBounds_toArray, List.set_cons_zero, List.set_cons_succ])
          (refine Rr.wr_y (by simp only [List.getElem?_toArray, List.getElem?_cons_succ, List.getElem?_cons_zero]; rfl) (by rfl) ?_
           apply Exists.intro
           refine ⟨fun wz hw _ => ?_, ?_⟩
           · have hcz := hw.cells.1
             go_simp
             apply Rg.up_enter
             (with_reducible refine (HN.out _).mono ?_)
             rintro e w3 ⟨rfl, hb3⟩
             exact ⟨rfl, hb3⟩
           simp only [Act.put, List.setIfInBounds_toArray, List.set_cons_zero, List.set_cons_succ])
          (refine Rr.wr_y (by simp only [List.getElem?_toArray, List.getElem?_cons_succ, List.getElem?_cons_zero]; rfl) (by rfl) ?_
           apply Exists.intro
           refine ⟨fun wz hw _ => ?_, ?_⟩
           · have hcz := hw.cells.1
             go_simp
             (with_reducible exact Rg.up_value)
           simp only [Act.put, List.setIfInBounds_toArray, List.set_cons_zero, List.set_cons_succ])
          (refine Rr.wr_y (by simp only [List.getElem?_toArray, List.getElem?_cons_succ, List.getElem?_cons_zero]; rfl) (by rfl) ?_
           apply Exists.intro
           refine ⟨fun wz hw _ => ?_, ?_⟩
           · have hcz := hw.cells.1
             go_simp
             (with_reducible exact Rg.up_value)
           simp only [Act.put, List.setIfInBounds_toArray, List.set_cons_zero, List.set_cons_succ])
          (refine Rr.wr_y (by simp only [List.getElem?_toArray, List.getElem?_cons_succ, List.getElem?_cons_zero]; rfl) (by rfl) ?_
           apply Exists.intro
           refine ⟨fun wz hw _ => ?_, ?_⟩
           · have hcz := hw.cells.1
             go_simp
             (with_reducible exact Rg.up_value)
           simp only [Act.put, List.setIfInBounds_toArray, List.set_cons_zero, List.set_cons_succ])
          (refine Rr.wr_y (by simp only [List.getElem?_toArray, List.getElem?_cons_succ, List.getElem?_cons_zero]; rfl) (by rfl) ?_
           apply Exists.intro
           refine ⟨fun wz hw _ => ?_, ?_⟩
           · have hcz := hw.cells.1
             go_simp
             (with_reducible exact Rg.up_value)
           simp only [Act.put, List.setIfInBounds_toArray, List.set_cons_zero, List.set_cons_succ])
          (refine Rr.wr_y (by simp only [List.getElem?_toArray, List.getElem?_cons_succ, List.getElem?_cons_zero]; rfl) (by rfl) ?_
           apply Exists.intro
           refine ⟨fun wz hw _ => ?_, ?_⟩
           · have hcz := hw.cells.1
             go_simp
             (with_reducible exact Rg.up_value)
           simp only [Act.put, List.setIfInBounds_toArray, List.set_cons_zero, List.set_cons_succ])
          (refine Rr.wr_y (by simp only [List.getElem?_toArray, List.getElem?_cons_succ, List.getElem?_cons_zero]; rfl) (by rfl) ?_
           apply Exists.intro
           refine ⟨fun wz hw _ => ?_, ?_⟩
           · have hcz := hw.cells.1
             go_simp
             (with_reducible exact Rg.up_value)
           simp only [Act.put, List.setIfInBounds_toArray, List.set_cons_zero, List.set_cons_succ])
          (refine Rr.wr_y (by simp only [List.getElem?_toArray, List.getElem?_cons_succ, List.getElem?_cons_zero]; rfl) (by rfl) ?_
           apply Exists.intro
           refine ⟨fun wz hw _ => ?_, ?_⟩
           · have hcz := hw.cells.1
             go_simp
             (with_reducible exact Rg.up_value)
           simp only [Act.put, List.setIfInBounds_toArray, List.set_cons_zero, List.set_cons_succ])
          (refine Rr.wr_y (by simp only [List.getElem?_toArray, List.getElem?_cons_succ, List.getElem?_cons_zero]; rfl) (by rfl) ?_
           apply Exists.intro
           refine ⟨fun wz hw _ => ?_, ?_⟩
           · have hcz := hw.cells.1
             go_simp
             (with_reducible exact Rg.up_value)
           simp only [Act.put, List.setIfInBounds_toArray, List.set_cons_zero, List.set_cons_succ])
          (refine Rr.wr_y (by simp only [List.getElem?_toArray, List.getElem?_cons_succ, List.getElem?_cons_zero]; rfl) (by rfl) ?_
           apply Exists.intro
           refine ⟨fun wz hw _ => ?_, ?_⟩
           · have hcz := hw.cells.1
             go_simp
             (with_reducible exact Rg.up_value)
           simp only [Act.put, List.setIfInBounds_toArray, List.set_cons_zero, List.set_cons_succ])
          (refine Rr.wr_y (by simp only [List.getElem?_toArray, List.getElem?_cons_succ, List.getElem?_cons_zero]; rfl) (by rfl) ?_
           apply Exists.intro
           refine ⟨fun wz hw _ => ?_, ?_⟩
           · have hcz := hw.cells.1
             go_simp
             (with_reducible exact Rg.up_value)
           simp only [Act.put, List.setIfInBounds_toArray, List.set_cons_zero, List.set_cons_succ])
          (refine Rr.wr_y (by simp only [List.getElem?_toArray, List.getElem?_cons_succ, List.getElem?_cons_zero]; rfl) (by rfl) ?_
           apply Exists.intro
           refine ⟨fun wz hw _ => ?_, ?_⟩
           · have hcz := hw.cells.1
             go_simp
             (with_reducible exact Rg.up_value)
           simp only [Act.put, List.setIfInBounds_toArray, List.set_cons_zero, List.set_cons_succ])
          (refine Rr.wr_y (by simp only [List.getElem?_toArray, List.getElem?_cons_succ, List.getElem?_cons_zero]; rfl) (by rfl) ?_
           apply Exists.intro
           refine ⟨fun wz hw _ => ?_, ?_⟩
           · have hcz := hw.cells.1
             go_simp
             (with_reducible exact Rg.up_value)
           simp only [Act.put, List.setIfInBounds_toArray, List.set_cons_zero, List.set_cons_succ])
          (refine Rr.wr_y (by simp only [List.getElem?_toArray, List.getElem?_cons_succ, List.getElem?_cons_zero]; rfl) (by rfl) ?_
           apply Exists.intro
           refine ⟨fun wz hw _ => ?_, ?_⟩
           · have hcz := hw.cells.1
             go_simp
             (with_reducible exact Rg.up_value)
           simp only [Act.put, List.setIfInBounds_toArray, List.set_cons_zero, List.set_cons_succ])
          refine Rr.wr_m (by simp only [List.getElem?_toArray, List.getElem?_cons_succ, List.getElem?_cons_zero]; rfl) (by rfl) (fun wz => by go_simp) (fun p hp => ?_)
          simp only [Act.put, List.setIfInBounds_toArray, List.set_cons_zero, List.set_cons_succ]
          refine Rr.wr_nil ?_
          intro wy hy hh
          have hbl := hh _ List.mem_cons_self
          obtain ⟨hb1, hb2⟩ := hbl
          simp only [List.length_cons, List.length_nil, List.drop_succ_cons, List.drop_zero, Nat.reduceAdd]
          have HP := Lib.hid hb2
          clear hh hb2
          refine append_one one_cr 62 85 48 Try.underlying62 info85 rfl (by decide) (by decide) rfl (.tmp 49) (.tmp 65) rfl W2.heap.size (.slice xa xl xc) st (by rfl) (row_ext HF.out hy) p ⟨nmz, 0, z1, z2, false⟩ (by rfl) HP.out (by have := HL.out; omega) (by have := HK.out.1; have := hy.size; omega) ?_
          intro g' cap' w6 hF6 hb6
          have HF6 := Lib.hid hF6
          have HT6 := Lib.hid ((hb6.block pt (by omega)).trans ((hy.block pt ul).trans HTr.out))
          obtain ⟨-, v1, -, -, -, vl⟩ := tcells HT6.out
          replace v1 : _ = some (Value.slice xa xl xc) := v1
          have vf := tfree HT6.out 2
          clear hF6 u1 s0
          go_wp2
          go_roundw
          case rel =>
            unfold TL2
            refine ⟨j + 1, (some ⟨g', 0, none⟩, st.length + 1, cap'), by go_num, by omega, by omega, heap_setCell_same w6 pt 2 _ 68 _ HT6.out, ?_, HK.out.step hy hb6 2 _, ?_⟩
            · rw [HS.out]
              exact row_keep HF6.out (fun g hg => heap_setCell_other _ _ _ _ (by show g ≠ pt; omega))
            · exact Below.setCell (Below.trans (hx.trans hy) (hb6.mono (by have := HptE.out; omega))) (by have := HptE.out; show _ ≤ pt; omega) _
          case measure => simp [intOf]; omega
        · have ht : cs.take 4 = cs.take j := by
            rcases Nat.lt_or_ge j 4 with h | h
            · rw [List.take_of_length_le (by omega), List.take_of_length_le (by omega)]
            · rw [show j = 4 by omega]
          have HX := Lib.hid (show _ ∧ _ ∧ _ ∧ _ from ⟨HTr.out, HF.out, HK.out, hx⟩)
          rw [← ht] at HX
          rcases (show ((j : Int) < (cs.length : Int) ∧ ¬ (j : Int) < 4) ∨ ¬ (j : Int) < (cs.length : Int) by omega) with ⟨h1, h2⟩ | h1
          all_goals
            go_wp2
            go_meet
            case rel => exact ⟨_, HX.out⟩
    case rest =>
      obtain ⟨y, hT, hF, hK, hxe⟩ := hcut
      have HTe := Lib.hid hT
      have HFy := Lib.hid hF
      have HK2 := Lib.hid hK
      have htl' := Rg.lt_of_heap hT
      clear hT hF hK HTd
      obtain ⟨W3, rfl⟩ : ∃ W3 : World, W3 = wc := ⟨_, rfl⟩
      go_upto_block 4 with (fail)
      go_cut [6] (fun s6 wx => ∃ z, wx.heap[pt]? = some (.cells (tenC (tnv x y z low high)) 68) ∧ wx.ownsRow W3.heap.size 108 3 (slV z) (rqN (rs.take 4)).length ((rqN (rs.take 4)).flatMap cellsRq) ∧ KeepBut pt W3 wx ∧ Ext W1 wx)
      case first =>
        go_wp2_with (fail)
        go_loopw [6] (fun k wr => TL3 W1 W3 pt low high x y rs k wr) (fun k _ => 4 - (intOf k).toNat)
        case atStart =>
          unfold TL3
          exact ⟨0, nilS, by go_num, Nat.zero_le _, by omega, HTe.out, World.ownsRow_nil W3 _ 108 3, KeepBut.refl _ _, hxe⟩
        case round =>
          unfold TL3 at hrel
          obtain ⟨j, ⟨xa, xl, xc⟩, rfl, hj, hj5, hT, hF, hK, hx⟩ := hrel
          have HF := Lib.hid hF
          have HTr := Lib.hid hT
          have HK := Lib.hid hK
          obtain ⟨-, -, u1, -, -, ul⟩ := tcells hT
          replace u1 : _ = some (Value.slice xa xl xc) := u1
          have s0 := (hx.cells.1 _ _ (by have := HptE.out; omega)).trans q4
          have sl : pc < wr.heap.size := by have := hx.size; have := HptE.out; omega
          clear hF hT hK
          have hlv : (rqN (rs.take j)).length = j := by unfold rqN; rw [List.length_map, List.length_take]; omega
          by_cases hgo : j < rs.length ∧ j < 4
          · obtain ⟨hlt, h5⟩ := hgo
            obtain ⟨A, cap, hA, -, -, hc⟩ := H2.out
            injection hA with hA _ hcap
            subst hA hcap
            obtain ⟨b, off, rfl, hcc⟩ := hc.resolve_left (by intro e; rw [e] at hlt; simp at hlt)
            have hc0 := (hcc j hlt).1
            have hc1 := (hcc j hlt).2.1
            have hc2 := (hcc j hlt).2.2
            have hbw := World.block_lt_of_cell? w _ hc0
            have hcr0 := ((hx1.trans hx).cells.1 _ _ hbw).trans hc0
            have hcr1 := ((hx1.trans hx).cells.1 _ _ hbw).trans hc1
            have hcr2 := ((hx1.trans hx).cells.1 _ _ hbw).trans hc2
            have hrg := H2r.out _ (List.getElem_mem hlt)
            have hbr := Nat.lt_of_lt_of_le hbw (hx1.trans hx).size
            have HS := Lib.hid (show rqN (rs.take (j + 1)) = rqN (rs.take j) ++ [⟨nameC (modZ rs[j].1 5).toNat, relC (modZ rs[j].2.1 5).toNat, rs[j].2.2⟩] by
              unfold rqN; rw [List.take_add_one, List.getElem?_eq_getElem hlt, Option.toList_some, List.map_append]; rfl)
            have HN := Lib.hid (names_any rs[j].1 hrg.1.1 hrg.1.2)
            have HM := Lib.hid (Mod_ext rs[j].2.1 5 (by omega) (by omega) hrg.2.1.1 hrg.2.1.2)
            obtain ⟨m0, m1⟩ := modZ_bd rs[j].2.1 (m := 5) (by omega)
            generalize modZ rs[j].2.1 5 = mz at *
            generalize nameC (modZ rs[j].1 5).toNat = nmz at *
            have HL := Lib.hid hlv
            generalize rqN (rs.take j) = st at *
            generalize rs[j] = z at *
            obtain ⟨z1, z2, z3⟩ := z
            have k6 : (j : Int) < 4 := by omega
            have k7 : (j : Int) < (rs.length : Int) := by omega
            clear hlv hc0 hc1 hc2 hc hcc hrg
            go_wp2_with (fail)
            refine Rr.wp_region [(0, .y), (1, .y), (2, .y), (3, .y), (4, .y), (5, .y), (6, .y), (7, .y), (8, .y), (10, .y), (11, .y), (12, .y), (13, .y), (14, .y), (15, .y), (16, .y), (19, .y), (20, .y), (21, .y), (22, .y), (23, .y), (24, .y), (9, .m), (17, .y), (18, .y), (25, .y), (26, .m)] (fun i => if i = 9 then (.cells relCT 9, fun p => .slice (some ⟨p, 0, none⟩) 5 5) else (.cells #[.string nmz, .string (relC mz.toNat), .int .i64 z3] 108, fun p => .slice (some ⟨p, 0, none⟩) 1 1)) (by kernel_rfl) (by kernel_rfl) ?_
            (refine Rr.wr_y (by simp only [List.getElem?_toArray, List.getElem?_cons_succ, List.getElem?_cons_zero]; rfl) (by rfl) ?_
             apply Exists.intro
             refine ⟨fun wz hw _ => ?_, ?_⟩
             · have hcz := hw.cells.1
               go_simp
               (with_reducible exact Rg.up_value)
             simp only [Act.put, List.setIfInBounds_toArray, List.set_cons_zero, List.set_cons_succ])
            (refine Rr.wr_y (by simp only [List.getElem?_toArray, List.getElem?_cons_succ, List.getElem?_cons_zero]; rfl) (by rfl) ?_
             apply Exists.intro
             refine ⟨fun wz hw _ => ?_, ?_⟩
             · have hcz := hw.cells.1
               go_simp
               (with_reducible exact Rg.up_value)
             simp only [Act.put, List.setIfInBounds_toArray, List.set_cons_zero, List.set_cons_succ])
            (refine Rr.wr_y (by simp only [List.getElem?_toArray, List.getElem?_cons_succ, List.getElem?_cons_zero]; rfl) (by rfl) ?_
             apply Exists.intro
             refine ⟨fun wz hw _ => ?_, ?_⟩
             · have hcz := hw.cells.1
               go_simp
               (with_reducible exact Rg.up_value)
             simp only [Act.put, List.setIfInBounds_toArray, List.set_cons_zero, List.set_cons_succ])
            (refine Rr.wr_y (by simp only [List.getElem?_toArray, List.getElem?_cons_succ, List.getElem?_cons_zero]; rfl) (by rfl) ?_
             apply Exists.intro
             refine ⟨fun wz hw _ => ?_, ?_⟩
             · have hcz := hw.cells.1
               go_simp
               (with_reducible exact Rg.up_value)
             simp only [Act.put, List.setIfInBounds_toArray, List.set_cons_zero, List.set_cons_succ])
            (refine Rr.wr_y (by simp only [List.getElem?_toArray, List.getElem?_cons_succ, List.getElem?_cons_zero]; rfl) (by rfl) ?_
             apply Exists.intro
             refine ⟨fun wz hw _ => ?_, ?_⟩
             · have hcz := hw.cells.1
               go_simp
               (with_reducible exact Rg.up_value)
             simp only [Act.put, List.setIfInBounds_toArray, List.set_cons_zero, List.set_cons_succ])
            (refine Rr.wr_y (by simp only [List.getElem?_toArray, List.getElem?_cons_succ, List.getElem?_cons_zero]; rfl) (by rfl) ?_
             apply Exists.intro
             refine ⟨fun wz hw _ => ?_, ?_⟩
             · have hcz := hw.cells.1
               go_simp
               (with_reducible exact Rg.up_value)
             simp only [Act.put, List.setIfInBounds_toArray, List.set_cons_zero, List.set_cons_succ])
            (refine Rr.wr_y (by simp only [List.getElem?_toArray, List.getElem?_cons_succ, List.getElem?_cons_zero]; rfl) (by rfl) ?_
             apply Exists.intro
             refine ⟨fun wz hw _ => ?_, ?_⟩
             · have hcz := hw.cells.1
               go_simp
               (with_reducible exact Rg.up_value)
             simp only [Act.put, List.setIfInBounds_toArray, List.set_cons_zero, List.set_cons_succ])
            (refine Rr.wr_y (by simp only [List.getElem?_toArray, List.getElem?_cons_succ, List.getElem?_cons_zero]; rfl) (by rfl) ?_
             apply Exists.intro
             refine ⟨fun wz hw _ => ?_, ?_⟩
             · have hcz := hw.cells.1
               go_simp
               (with_reducible exact Rg.up_value)
             simp only [Act.put, List.setIfInBounds_toArray, List.set_cons_zero, List.set_cons_succ])
            (refine Rr.wr_y (by simp only [List.getElem?_toArray, List.getElem?_cons_succ, List.getElem?_cons_zero]; rfl) (by rfl) ?_
             apply Exists.intro
             refine ⟨fun wz hw _ => ?_, ?_⟩
             · have hcz := hw.cells.1
               go_simp
               apply Rg.up_enter
               (with_reducible refine (HN.out _).mono ?_)
               rintro e w3 ⟨rfl, hb3⟩
               exact ⟨rfl, hb3⟩
             simp only [Act.put, List.setIfInBounds_toArray, List.set_cons_zero, List.set_cons_succ])
            (refine Rr.wr_y (by simp only [List.getElem?_toArray, List.getElem?_cons_succ, List.getElem?_cons_zero]; rfl) (by rfl) ?_
             apply Exists.intro
             refine ⟨fun wz hw _ => ?_, ?_⟩
             · have hcz := hw.cells.1
               go_simp
               (with_reducible exact Rg.up_value)
             simp only [Act.put, List.setIfInBounds_toArray, List.set_cons_zero, List.set_cons_succ])
            (refine Rr.wr_y (by simp only [List.getElem?_toArray, List.getElem?_cons_succ, List.getElem?_cons_zero]; rfl) (by rfl) ?_
             apply Exists.intro
             refine ⟨fun wz hw _ => ?_, ?_⟩
             · have hcz := hw.cells.1
               go_simp
               (with_reducible exact Rg.up_value)
             simp only [Act.put, List.setIfInBounds_toArray, List.set_cons_zero, List.set_cons_succ])
            (refine Rr.wr_y (by simp only [List.getElem?_toArray, List.getElem?_cons_succ, List.getElem?_cons_zero]; rfl) (by rfl) ?_
             apply Exists.intro
             refine ⟨fun wz hw _ => ?_, ?_⟩
             · have hcz := hw.cells.1
               go_simp
               (with_reducible exact Rg.up_value)
             simp only [Act.put, List.setIfInBounds_toArray, List.set_cons_zero, List.set_cons_succ])
            (refine Rr.wr_y (by simp only [List.getElem?_toArray, List.getElem?_cons_succ, List.getElem?_cons_zero]; rfl) (by rfl) ?_
             apply Exists.intro
             refine ⟨fun wz hw _ => ?_, ?_⟩
             · have hcz := hw.cells.1
               go_simp
               (with_reducible exact Rg.up_value)
             simp only [Act.put, List.setIfInBounds_toArray, List.set_cons_zero, List.set_cons_succ])
            (refine Rr.wr_y (by simp only [List.getElem?_toArray, List.getElem?_cons_succ, List.getElem?_cons_zero]; rfl) (by rfl) ?_
             apply Exists.intro
             refine ⟨fun wz hw _ => ?_, ?_⟩
             · have hcz := hw.cells.1
               go_simp
               (with_reducible exact Rg.up_value)
             simp only [Act.put, List.setIfInBounds_toArray, List.set_cons_zero, List.set_cons_succ])
            (refine Rr.wr_y (by simp only [List.getElem?_toArray, List.getElem?_cons_succ, List.getElem?_cons_zero]; rfl) (by rfl) ?_
             apply Exists.intro
             refine ⟨fun wz hw _ => ?_, ?_⟩
             · have hcz := hw.cells.1
               go_simp
               (with_reducible exact Rg.up_value)
             simp only [Act.put, List.setIfInBounds_toArray, List.set_cons_zero, List.set_cons_succ])
            (refine Rr.wr_y (by simp only [List.getElem?_toArray, List.getElem?_cons_succ, List.getElem?_cons_zero]; rfl) (by rfl) ?_
             apply Exists.intro
             refine ⟨fun wz hw _ => ?_, ?_⟩
             · have hcz := hw.cells.1
               go_simp
               apply Rg.up_enter
               (with_reducible refine (HM.out _).mono ?_)
               rintro e w3 ⟨rfl, hb3⟩
               exact ⟨rfl, hb3⟩
             simp only [Act.put, List.setIfInBounds_toArray, List.set_cons_zero, List.set_cons_succ])
            (refine Rr.wr_y (by simp only [List.getElem?_toArray, List.getElem?_cons_succ, List.getElem?_cons_zero]; rfl) (by rfl) ?_
             apply Exists.intro
             refine ⟨fun wz hw _ => ?_, ?_⟩
             · have hcz := hw.cells.1
               go_simp
               (with_reducible exact Rg.up_value)
             simp only [Act.put, List.setIfInBounds_toArray, List.set_cons_zero, List.set_cons_succ])
            (refine Rr.wr_y (by simp only [List.getElem?_toArray, List.getElem?_cons_succ, List.getElem?_cons_zero]; rfl) (by rfl) ?_
             apply Exists.intro
             refine ⟨fun wz hw _ => ?_, ?_⟩
             · have hcz := hw.cells.1
               go_simp
               (with_reducible exact Rg.up_value)
             simp only [Act.put, List.setIfInBounds_toArray, List.set_cons_zero, List.set_cons_succ])
            (refine Rr.wr_y (by simp only [List.getElem?_toArray, List.getElem?_cons_succ, List.getElem?_cons_zero]; rfl) (by rfl) ?_
             apply Exists.intro
             refine ⟨fun wz hw _ => ?_, ?_⟩
             · have hcz := hw.cells.1
               go_simp
               (with_reducible exact Rg.up_value)
             simp only [Act.put, List.setIfInBounds_toArray, List.set_cons_zero, List.set_cons_succ])
            (refine Rr.wr_y (by simp only [List.getElem?_toArray, List.getElem?_cons_succ, List.getElem?_cons_zero]; rfl) (by rfl) ?_
             apply Exists.intro
             refine ⟨fun wz hw _ => ?_, ?_⟩
             · have hcz := hw.cells.1
               go_simp
               (with_reducible exact Rg.up_value)
             simp only [Act.put, List.setIfInBounds_toArray, List.set_cons_zero, List.set_cons_succ])
            (refine Rr.wr_y (by simp only [List.getElem?_toArray, List.getElem?_cons_succ, List.getElem?_cons_zero]; rfl) (by rfl) ?_
             apply Exists.intro
             refine ⟨fun wz hw _ => ?_, ?_⟩
             · have hcz := hw.cells.1
               go_simp
               (with_reducible exact Rg.up_value)
             simp only [Act.put, List.setIfInBounds_toArray, List.set_cons_zero, List.set_cons_succ])
            (refine Rr.wr_y (by simp only [List.getElem?_toArray, List.getElem?_cons_succ, List.getElem?_cons_zero]; rfl) (by rfl) ?_
             apply Exists.intro
             refine ⟨fun wz hw _ => ?_, ?_⟩
             · have hcz := hw.cells.1
               go_simp
               (with_reducible exact Rg.up_value)
             simp only [Act.put, List.setIfInBounds_toArray, List.set_cons_zero, List.set_cons_succ])
            refine Rr.wr_m (by simp only [List.getElem?_toArray, List.getElem?_cons_succ, List.getElem?_cons_zero]; rfl) (by rfl) (fun wz => by go_simp) (fun pq hpq => ?_)
            simp only [Act.put, List.setIfInBounds_toArray, List.set_cons_zero, List.set_cons_succ]
            (refine Rr.wr_y (by simp only [List.getElem?_toArray, List.getElem?_cons_succ, List.getElem?_cons_zero]; rfl) (by rfl) ?_
             apply Exists.intro
             refine ⟨fun wz hw _ => ?_, ?_⟩
             · have hcz := hw.cells.1
               go_simp
               (with_reducible exact Rg.up_value)
             simp only [Act.put, List.setIfInBounds_toArray, List.set_cons_zero, List.set_cons_succ])
            refine Rr.wr_y (by simp only [List.getElem?_toArray, List.getElem?_cons_succ, List.getElem?_cons_zero]; rfl) (by rfl) ⟨.string (relC mz.toNat), fun wz hw hh => ?_, ?_⟩
            · obtain ⟨-, h2⟩ := hh _ List.mem_cons_self
              have hrl := relCT_at h2 mz.toNat (by omega)
              go_simp
              exact Rg.up_value
            simp only [Act.put, List.setIfInBounds_toArray, List.set_cons_zero, List.set_cons_succ]
            (refine Rr.wr_y (by simp only [List.getElem?_toArray, List.getElem?_cons_succ, List.getElem?_cons_zero]; rfl) (by rfl) ?_
             apply Exists.intro
             refine ⟨fun wz hw _ => ?_, ?_⟩
             · have hcz := hw.cells.1
               go_simp
               (with_reducible exact Rg.up_value)
             simp only [Act.put, List.setIfInBounds_toArray, List.set_cons_zero, List.set_cons_succ])
            refine Rr.wr_m (by simp only [List.getElem?_toArray, List.getElem?_cons_succ, List.getElem?_cons_zero]; rfl) (by rfl) (fun wz => by go_simp) (fun p hp => ?_)
            simp only [Act.put, List.setIfInBounds_toArray, List.set_cons_zero, List.set_cons_succ]
            refine Rr.wr_nil ?_
            intro wy hy hh
            have hbl := hh _ List.mem_cons_self
            obtain ⟨hb1, hb2⟩ := hbl
            simp only [List.length_cons, List.length_nil, List.drop_succ_cons, List.drop_zero, Nat.reduceAdd]
            have HP := Lib.hid hb2
            clear hh hb2
            refine append_one one_rq 63 108 40 Try.underlying63 info108 rfl (by decide) (by decide) rfl (.tmp 80) (.tmp 105) rfl W3.heap.size (.slice xa xl xc) st (by rfl) (row_ext HF.out hy) p ⟨nmz, relC mz.toNat, z3⟩ (by rfl) HP.out (by have := HL.out; omega) (by have := HK.out.1; have := hy.size; omega) ?_
            intro g' cap' w6 hF6 hb6
            have HF6 := Lib.hid hF6
            have HT6 := Lib.hid ((hb6.block pt (by omega)).trans ((hy.block pt ul).trans HTr.out))
            obtain ⟨-, -, v1, -, -, vl⟩ := tcells HT6.out
            replace v1 : _ = some (Value.slice xa xl xc) := v1
            have vf := tfree HT6.out 3
            clear hF6 u1 s0
            go_wp2
            go_roundw
            case rel =>
              unfold TL3
              refine ⟨j + 1, (some ⟨g', 0, none⟩, st.length + 1, cap'), by go_num, by omega, by omega, heap_setCell_same w6 pt 3 _ 68 _ HT6.out, ?_, HK.out.step hy hb6 3 _, ?_⟩
              · rw [HS.out]
                exact row_keep HF6.out (fun g hg => heap_setCell_other _ _ _ _ (by show g ≠ pt; omega))
              · exact Below.setCell (Below.trans (hx.trans hy) (hb6.mono (by have := HptE.out; omega))) (by have := HptE.out; show _ ≤ pt; omega) _
            case measure => simp [intOf]; omega
          · have ht : rs.take 4 = rs.take j := by
              rcases Nat.lt_or_ge j 4 with h | h
              · rw [List.take_of_length_le (by omega), List.take_of_length_le (by omega)]
              · rw [show j = 4 by omega]
            have HX := Lib.hid (show _ ∧ _ ∧ _ ∧ _ from ⟨HTr.out, HF.out, HK.out, hx⟩)
            rw [← ht] at HX
            rcases (show ((j : Int) < (rs.length : Int) ∧ ¬ (j : Int) < 4) ∨ ¬ (j : Int) < (rs.length : Int) by omega) with ⟨h1, h2⟩ | h1
            all_goals
              go_wp2
              go_meet
              case rel => exact ⟨_, HX.out⟩
      case rest =>
        obtain ⟨z, hT, hF, hK, hxf⟩ := hcut
        have HTf := Lib.hid hT
        have HFz := Lib.hid hF
        have HK3 := Lib.hid hK
        have htl'' := Rg.lt_of_heap hT
        obtain ⟨W4, rfl⟩ : ∃ W4 : World, W4 = wc := ⟨_, rfl⟩
        have HRf := Lib.hid ((hxf.block pr (Rg.lt_of_heap HR.out)).trans HR.out)
        clear hT hF hK HTe
        go_wp2_with (first
          | (refine wpList_load_row (hgd := rfl) 68 (.tmp 3) rfl pt (by rfl) 68 _ _ _ HTf.out Try.underlying68 rfl (by kernel_rfl) ?_)
          | (refine wpList_store_row (hgd := rfl) 68 (.tmp 2) (.tmp 108) rfl pr (by rfl) (tenC (tnv x y z low high)) (by rfl) _ 68 HRf.out (by rfl) (by kernel_rfl) (ten_one _) ?_))
        have hR5 : (W4.setRow pr (tenC (tnv x y z low high))).heap[pr]? = some (.cells (tenC (tnv x y z low high)) 68) := setRow_heap _ _ _ _ _ _ HRf.out
        have hpp : pr < B1 := by have := Hs2'.out; have := HptE.out; have := Rg.lt_of_heap HR.out; omega
        have kx : ∀ g, B1 ≤ g → g < W2.heap.size → (W4.setRow pr (tenC (tnv x y z low high))).heap[g]? = W2.heap[g]? := fun g h1 h2 => by
          have hg : ¬ g = pt := by have := HB1.out; omega
          rw [setRow_other _ _ _ _ (by omega), HK3.out.2 g (Nat.lt_of_lt_of_le h2 HK2.out.1) hg, HK2.out.2 g h2 hg]
        have ky : ∀ g, W2.heap.size ≤ g → g < W3.heap.size → (W4.setRow pr (tenC (tnv x y z low high))).heap[g]? = W3.heap[g]? := fun g h1 h2 => by
          have hg : ¬ g = pt := by omega
          have hg2 : ¬ g = pr := by have := HptE.out; have := Rg.lt_of_heap HR.out; have := hxd.size; omega
          rw [setRow_other _ _ _ _ hg2, HK3.out.2 g h2 hg]
        have kz : ∀ g, W3.heap.size ≤ g → (W4.setRow pr (tenC (tnv x y z low high))).heap[g]? = W4.heap[g]? := fun g h1 => by
          have hg2 : ¬ g = pr := by have := HptE.out; have := Rg.lt_of_heap HR.out; have := hxe.size; omega
          rw [setRow_other _ _ _ _ hg2]
        have hxl : Ext w (W4.setRow pr (tenC (tnv x y z low high))) := below_setRow (hx1.trans hxf) (by have := Hpc.out; omega) _
        refine bodyPost_ret (v := .agg (tenC (tnv x y z low high))) (results_cell_row Try.results36 _ _ pr 68 _ _ _ (by rfl) hR5 Try.underlying68 rfl (by kernel_rfl)) rfl ⟨x, y, z, rfl, hxl, ?_, ?_, ?_⟩
        · exact SR.of_row (fun x => (one_lot x).1) (row_keep' HFx.out kx) (by rw [lotN_length, List.length_take]; omega)
        · exact SR.of_row (fun x => (one_cr x).1) (row_keep' HFy.out ky) (by rw [crN_length, List.length_take]; omega)
        · exact SR.of_row (fun x => (one_rq x).1) (row_keep HFz.out kz) (by unfold rqN; rw [List.length_map, List.length_take]; omega)
end Go.Proofs.Ytgkdeknfmmgbdaa
