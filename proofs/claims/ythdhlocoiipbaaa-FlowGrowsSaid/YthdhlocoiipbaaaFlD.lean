/-
  The items that numbers determine, walked. Condition: the argument reads as rows of three ints.
-/
import Derived.Test.YthdhlocoiipbaaaFlA
import Derived.Deep.Onto
namespace Go.Proofs.Ythdhlocoiipbaaa
set_option linter.unusedVariables false
set_option linter.unusedSimpArgs false
open Go.RowKit

/-- The slice v holds n rows of m ints. -/
def RA (m : Nat) (w : World) (v : Value) (f : Nat → Nat → Int) (n : Nat) : Prop :=
  ∃ A cap, v = .slice A n cap ∧ n ≤ 9223372036854775807 ∧ (∀ i j, OkI (f i j)) ∧ (n = 0 ∨ ∃ b off, A = some ⟨b, off, none⟩ ∧ ∀ i, i < n → ∀ j, j < m → w.cell? ⟨b, off + i * m + j, none⟩ = some (.int .i64 (f i j)))
theorem RA.ext {m : Nat} {w w' : World} {v : Value} {f : Nat → Nat → Int} {n : Nat} (h : RA m w v f n) (e : Ext w w') : RA m w' v f n := by
  obtain ⟨A, cap, h1, h2, h3, h4⟩ := h
  exact ⟨A, cap, h1, h2, h3, h4.imp id fun ⟨b, off, ha, hc⟩ => ⟨b, off, ha, fun i hi j hj => (e.cells.1 _ _ (World.block_lt_of_cell? w _ (hc i hi j hj))).trans (hc i hi j hj)⟩⟩

/-- The labels of items by numbers. -/
def labT (z : Nat) : Int := [0, 0, 1, 2, 4, 8, 0, 3].getD z 0
theorem labT_at {z : Nat} (h : z < 8) : (#[.int .i64 0, .int .i64 0, .int .i64 1, .int .i64 2, .int .i64 4, .int .i64 8, .int .i64 0, .int .i64 3] : Array Value)[z]? = some (.int .i64 (labT z)) := by
  match z, h with
  | 0, _ => rfl
  | 1, _ => rfl
  | 2, _ => rfl
  | 3, _ => rfl
  | 4, _ => rfl
  | 5, _ => rfl
  | 6, _ => rfl
  | 7, _ => rfl
theorem labT_ok (z : Nat) : OkI (labT z) := by
  match z with
  | 0 => exact ⟨by decide, by decide⟩
  | 1 => exact ⟨by decide, by decide⟩
  | 2 => exact ⟨by decide, by decide⟩
  | 3 => exact ⟨by decide, by decide⟩
  | 4 => exact ⟨by decide, by decide⟩
  | 5 => exact ⟨by decide, by decide⟩
  | 6 => exact ⟨by decide, by decide⟩
  | 7 => exact ⟨by decide, by decide⟩
  | z + 8 => exact ⟨by show (-9223372036854775808 : Int) ≤ 0; decide, by show (0 : Int) ≤ 9223372036854775807; decide⟩
/-- One origin by a number. -/
def frm1 (N : Nat) (z : Int) : List Int := if 1 ≤ z % (N + 3) ∧ z % (N + 3) ≤ N then [z % (N + 3)] else []
def frmT (N : Nat) (f : Nat → Int) : List Int := frm1 N (f 1) ++ frm1 N (f 2)
/-- x is the item number k of N that the rows determine. -/
def MadeI (N : Nat) (f : Nat → Nat → Int) (k : Nat) (x : It) : Prop := x.id = k + 1 ∧ x.label = labT (f k 0 % 8).toNat ∧ x.frm = frmT N (f k)

/-- What Made leaves: items, each with its own origins, in own blocks. -/
def MadeS (B : Nat) (N : Nat) (f : Nat → Nat → Int) (w : World) (v : Value) (xs : List It) : Prop :=
  w.ownsRow B 32 3 v xs.length (xs.flatMap It.cs) ∧ xs.length ≤ N ∧ ∀ k (h : k < xs.length), MadeI N f k xs[k] ∧ w.ownsRow B 3 1 xs[k].fv xs[k].frm.length (xs[k].frm.flatMap celI)

def frmK (N : Nat) (g : Nat → Int) (i : Nat) : List Int := (if 2 ≤ i then frm1 N (g 1) else []) ++ (if 3 ≤ i then frm1 N (g 2) else [])
theorem frmK_next (N : Nat) (g : Nat → Int) {i : Nat} (h1 : 1 ≤ i) (h2 : i < 3) : frmK N g (i + 1) = frmK N g i ++ frm1 N (g i) := by
  rcases (show i = 1 ∨ i = 2 by omega) with rfl | rfl <;> simp [frmK]
theorem frm1_le (N : Nat) (z : Int) : (frm1 N z).length ≤ 1 := by unfold frm1; split <;> simp
theorem frmK_le (N : Nat) (g : Nat → Int) (i : Nat) : (frmK N g i).length ≤ 2 := by
  unfold frmK
  have h1 := frm1_le N (g 1)
  have h2 := frm1_le N (g 2)
  rw [List.length_append]
  split <;> split <;> simp <;> omega
/-- Only block p, and what is new, has turned. -/
theorem grown_more {w0 w w' : World} {p : Nat} {row : Option Nat} (h : w0.grownBy w (some p)) (hg : w.grownBy w' row) (hr : ∀ r, row = some r → r = p ∨ w0.heap.size ≤ r) : w0.grownBy w' (some p) :=
  ⟨hg.os.trans h.os, hg.tape.trans h.tape, hg.output.trans h.output, Nat.le_trans h.size hg.size, fun k hk hne => (hg.block k (Nat.lt_of_lt_of_le hk h.size) (fun e => by
    rcases hr k e.symm with rfl | h2
    · exact hne rfl
    · omega)).trans (h.block k hk hne)⟩
theorem grown_setCell (w : World) (p o : Nat) (u : Value) : w.grownBy (w.setCell ⟨p, o, none⟩ u) (some p) :=
  ⟨rfl, rfl, rfl, by rw [World.size_setCell]; exact Nat.le_refl _, fun k _ hk => heap_setCell_other w _ k u (fun e => hk (by rw [e]))⟩
theorem grown_alloc (w : World) (o : Obj) : w.grownBy (w.alloc o) none := World.grownBy_alloc w o none

set_option maxRecDepth 100000 in
set_option maxHeartbeats 4000000 in
theorem Made_any (v : Value) (f : Nat → Nat → Int) (n : Nat) (w : World) (h : RA 3 w v f n) :
    Calls Try.prog 12 #[v] w fun e w' => ∃ r xs, e = .returned r ∧ MadeS w.heap.size (min n 20) f w' r xs ∧ xs.length = min n 20 ∧ Ext w w' := by
  have h' := h
  obtain ⟨A, cap, rfl, hn, hok, hcell⟩ := h
  obtain ⟨N, hN⟩ : ∃ N, min n 20 = N := ⟨_, rfl⟩
  have hN20 : N ≤ 20 := by omega
  have hNn : N ≤ n := by omega
  have hNi : min (n : Int) 20 = (N : Int) := by omega
  rw [hN]
  have HN := Lib.hid hN; clear hN
  have HC := Lib.hid hcell; have HR := Lib.hid h'
  clear hcell h'
  go_enter Try.func12, Try.ntmps12
  go_upto_region 2 with (fail)
  go_cut [4, 9, 10, 11] (fun a b c d wx => a = .int .i64 N ∧ wx = w)
  case first =>
    go_wp2_with (fail)
    all_goals
      go_meet
      case rel =>
        refine ⟨?_, rfl⟩
        congr 1
        have := HN.out
        omega
  case rest =>
    obtain ⟨rfl, rfl⟩ := hcut
    go_upto_region 4 with (fail)
    go_loopw [3, 5] (fun o k wr => ∃ (j : Nat) (xs : List It), k = .int .i64 j ∧ j ≤ N ∧ xs.length = j ∧ MadeS wc.heap.size N f wr o xs ∧ Ext wc wr) (fun _ k _ => N - (iof k).toNat)
    case atStart => exact ⟨0, [], rfl, by omega, rfl, ⟨World.ownsRow_nil _ _ _ _, by simp, fun k h => by simp at h⟩, Ext.refl _⟩
    case round =>
      obtain ⟨j, xs, rfl, hj, hxl, hM, hx⟩ := hrel
      by_cases hjN : j < N
      · obtain ⟨b, off, rfl, hcell⟩ := HC.out.resolve_left (by omega)
        have hjn : j < n := by omega
        have l0 : b < wr.heap.size := by
          have := World.block_lt_of_cell? wc ⟨b, off + j * 3 + 0, none⟩ (hcell j hjn 0 (by decide))
          have := hx.size
          simp at *
          omega
        have cc : ∀ i, i < 3 → wr.cell? ⟨b, off + j * 3 + i, none⟩ = some (.int .i64 (f j i)) := fun i hi => (hx.cells.1 _ _ (World.block_lt_of_cell? wc _ (hcell j hjn i hi))).trans (hcell j hjn i hi)
        have c0 : wr.cell? ⟨b, off + j * 3, none⟩ = some (.int .i64 (f j 0)) := cc 0 (by decide)
        have c1 := cc 1 (by decide)
        have c2 := cc 2 (by decide)
        obtain ⟨z, hz⟩ : ∃ z : Nat, f j 0 % 8 = (z : Int) := ⟨(f j 0 % 8).toNat, by have := modZ_bd (f j 0) (m := 8) (by decide); omega⟩
        have hz8 : z < 8 := by have := modZ_bd (f j 0) (m := 8) (by decide); omega
        have hm0 := mod_any (f j 0) 8 (by decide) (by decide) (hok j 0)
        rw [hz] at hm0
        have HC2 := Lib.hid cc; clear cc hcell
        have hlit : (wr.alloc (.cells #[.int .i64 0, .int .i64 0, .int .i64 1, .int .i64 2, .int .i64 4, .int .i64 8, .int .i64 0, .int .i64 3] 3)).cell? ⟨wr.heap.size, z, none⟩ = some (.int .i64 (labT z)) :=
          (cell_of_row _ wr.heap.size z _ _ _ (World.alloc_heap_new wr _)).trans (labT_at hz8)
        have Hz := Lib.hid hz; clear hz
        go_upto_region 7 with (go_at_call 25; (with_reducible refine (hm0 _).mono ?_); rintro e w3 ⟨rfl, rfl⟩)
        have HCx : Ext wr ((wr.alloc (.cells #[.int .i64 0, .int .i64 0, .int .i64 1, .int .i64 2, .int .i64 4, .int .i64 8, .int .i64 0, .int .i64 3] 3)).alloc (.cells #[.int .i64 (j + 1), .int .i64 (labT z), .slice none 0 0] 32)) := Ext.alloc (Ext.alloc (Ext.refl _) _) _
        have hbp : ((wr.alloc (.cells #[.int .i64 0, .int .i64 0, .int .i64 1, .int .i64 2, .int .i64 4, .int .i64 8, .int .i64 0, .int .i64 3] 3)).alloc (.cells #[.int .i64 (j + 1), .int .i64 (labT z), .slice none 0 0] 32)).heap[wr.heap.size + 1]? = some (.cells #[.int .i64 (j + 1), .int .i64 (labT z), .slice none 0 0] 32) := by
          have := World.alloc_heap_new (wr.alloc (.cells #[.int .i64 0, .int .i64 0, .int .i64 1, .int .i64 2, .int .i64 4, .int .i64 8, .int .i64 0, .int .i64 3] 3)) (.cells #[.int .i64 (j + 1), .int .i64 (labT z), .slice none 0 0] 32)
          rwa [World.size_alloc] at this
        have hs4 : ((wr.alloc (.cells #[.int .i64 0, .int .i64 0, .int .i64 1, .int .i64 2, .int .i64 4, .int .i64 8, .int .i64 0, .int .i64 3] 3)).alloc (.cells #[.int .i64 (j + 1), .int .i64 (labT z), .slice none 0 0] 32)).heap.size = wr.heap.size + 2 := by simp
        clear hlit c0 c1 c2
        generalize hW4 : (wr.alloc (.cells #[.int .i64 0, .int .i64 0, .int .i64 1, .int .i64 2, .int .i64 4, .int .i64 8, .int .i64 0, .int .i64 3] 3)).alloc (.cells #[.int .i64 (j + 1), .int .i64 (labT z), .slice none 0 0] 32) = W4 at *
        obtain ⟨w2, hw2⟩ : ∃ w2, w2 = wr := ⟨wr, rfl⟩
        subst hw2
        go_upto_region 8 with (fail)
        go_loopw [7] (fun k wr => ∃ (i : Nat) (fv : Value), k = .int .i64 i ∧ 1 ≤ i ∧ i ≤ 3 ∧ wr.heap[w2.heap.size + 1]? = some (.cells #[.int .i64 (j + 1), .int .i64 (labT z), fv] 32) ∧ wr.ownsRow W4.heap.size 3 1 fv (frmK N (f j) i).length ((frmK N (f j) i).flatMap celI) ∧ W4.grownBy wr (some (w2.heap.size + 1))) (fun k _ => 3 - (iof k).toNat)
        case atStart => exact ⟨1, _, rfl, by omega, by omega, hbp, by simpa [frmK] using World.ownsRow_nil _ _ _ _, ⟨rfl, rfl, rfl, Nat.le_refl _, fun _ _ _ => rfl⟩⟩
        case round =>
          obtain ⟨i, fv, rfl, hi1, hi3, hbq, hrow, hg⟩ := hrel
          by_cases hi : i < 3
          · have ci : wr.cell? ⟨b, off + j * 3 + i, none⟩ = some (.int .i64 (f j i)) := by
              have h1 := (HCx.cells.1 _ _ (World.block_lt_of_cell? w2 _ (HC2.out i hi))).trans (HC2.out i hi)
              have h2 := hg.block b (by have := HCx.size; omega) (by simp; omega)
              unfold World.cell? at h1 ⊢
              simp only [h2]
              exact h1
            have hmi := mod_any (f j i) (N + 3) (by omega) (by omega) (hok j i)
            have hyb := modZ_bd (f j i) (m := (N : Int) + 3) (by omega)
            have hnx := frmK_next N (f j) hi1 hi
            have hf1 : frm1 N (f j i) = if 1 ≤ f j i % (N + 3) ∧ f j i % (N + 3) ≤ N then [f j i % (N + 3)] else [] := rfl
            generalize f j i % ((N : Int) + 3) = y at *
            have Hnx := Lib.hid hnx; clear hnx
            have q2 := cell_of_row wr (w2.heap.size + 1) 2 _ _ _ hbq
            by_cases hy : 1 ≤ y ∧ y ≤ (N : Int)
            · rw [if_pos hy] at hf1
              rw [hf1] at Hnx
              obtain ⟨hy1, hy2⟩ := hy
              have hle := frmK_le N (f j) i
              go_wp2_with (first
                | (go_at_call 25; (with_reducible refine (hmi _).mono ?_); rintro e w5 ⟨rfl, rfl⟩)
                | (at_builtin; go_loud (refine append_g (cs := celI) (z := .int .i64 0) 28 3 8 Try.underlying28 (by kernel_rfl) (by rfl) (by decide) (by decide) rfl _ _ rfl W4.heap.size _ (frmK N (f j) i) (by rfl) (row_ext hrow (Ext.alloc (Ext.refl _) _)) wr.heap.size y (celI_len y) (by rfl) (World.alloc_heap_new _ _) (by omega) (by have := hg.size; simp; omega) ?_; intro g cap' w9 hr9 hg9 hat; have hb9 : w9.heap[w2.heap.size + 1]? = some (.cells #[.int .i64 (j + 1), .int .i64 (labT z), fv] 32) := (hg9.block _ (by have := Rg.lt_of_heap hbq; simp; omega) (fun e => by have := (hrow.lt _ e.symm).1; omega)).trans ((Below.heap_alloc _ _ _ (Rg.lt_of_heap hbq)).trans hbq); have q9 := cell_of_row w9 (w2.heap.size + 1) 2 _ _ _ hb9; have f9 : w9.frozen? ⟨w2.heap.size + 1, 2, none⟩ = false := by simp [World.frozen?, hb9])))
              refine ⟨⟨i + 1, _, by simp, by omega, by omega, heap_setCell_same _ _ 2 _ _ _ hb9, ?_, ?_⟩, by simp; omega⟩
              · rw [Hnx.out]
                exact World.ownsRow.kept (by simpa using hr9) (grown_setCell _ _ 2 _) (.inr (by
                  have h9 := (hr9.lt g rfl).1
                  simp [Value.ownBlock]
                  omega))
              · refine grown_more (grown_more (grown_more hg (grown_alloc _ _) (by simp)) hg9 (fun r hr => .inr (hrow.lt r hr).1)) (grown_setCell _ _ 2 _) (by simp)
            · rw [if_neg hy] at hf1
              rw [hf1, List.append_nil] at Hnx
              rcases (show ¬ 1 ≤ y ∨ (1 ≤ y ∧ ¬ y ≤ (N : Int)) by omega) with hy1 | ⟨hy1, hy2⟩
              · go_wp2_with (go_at_call 25; (with_reducible refine (hmi _).mono ?_); rintro e w5 ⟨rfl, rfl⟩)
                exact ⟨⟨i + 1, fv, by simp, by omega, by omega, hbq, by rw [Hnx.out]; exact hrow, hg⟩, by simp; omega⟩
              · go_wp2_with (go_at_call 25; (with_reducible refine (hmi _).mono ?_); rintro e w5 ⟨rfl, rfl⟩)
                exact ⟨⟨i + 1, fv, by simp, by omega, by omega, hbq, by rw [Hnx.out]; exact hrow, hg⟩, by simp; omega⟩
          · obtain rfl : i = 3 := by omega
            have hle := frmK_le N (f j) 3
            obtain ⟨fb, fc, rfl⟩ := (SR.of_row (cs := celI) (fun x => (celI_len x).1) hrow (by omega)).form
            have q0 := cell_of_row wr (w2.heap.size + 1) 0 _ _ _ hbq
            have q1 := cell_of_row wr (w2.heap.size + 1) 1 _ _ _ hbq
            have q2 := cell_of_row wr (w2.heap.size + 1) 2 _ _ _ hbq
            have hxs := hM.1
            have hxw : wc.heap.size ≤ w2.heap.size := hx.size
            have hlt2 : ∀ {E sz n' : Nat} {v : Value} {ys : List Value}, w2.ownsRow wc.heap.size E sz v n' ys → wr.ownsRow wc.heap.size E sz v n' ys := fun {E sz n' v ys} h => World.ownsRow.kept (row_ext h HCx) hg (by
              cases ho : v.ownBlock with
              | none => exact .inl rfl
              | some g =>
                have := (h.lt g ho).2
                exact .inr (by simp; omega))
            have hxs2 := hlt2 hxs
            have hmi : MadeI N f j ⟨j + 1, labT z, .slice fb (frmK N (f j) 3).length fc, frmK N (f j) 3⟩ := ⟨rfl, by rw [Hz.out]; rfl, by simp [frmK, frmT]⟩
            have hgw : Ext wc wr := Below.trans (Below.trans hx (HCx.mono hx.size)) ⟨hg.os, hg.tape, hg.output, hg.size, fun k hk => hg.block k (by have := HCx.size; omega) (by simp; omega)⟩
            go_wp2_with (at_builtin; go_loud (refine append_g (cs := It.cs) (z := .agg #[.int .i64 0, .int .i64 0, .slice none 0 0]) 23 32 40 Try.underlying23 (by kernel_rfl) (by rfl) (by decide) (by decide) rfl _ _ rfl wc.heap.size _ xs (by rfl) (row_ext hxs2 (Ext.alloc (Ext.refl _) _)) wr.heap.size ⟨j + 1, labT z, .slice fb (frmK N (f j) 3).length fc, frmK N (f j) 3⟩ ⟨rfl, by simp [It.cs, Value.oneCell']⟩ (by rfl) (World.alloc_heap_new _ _) (by omega) (by have := hgw.size; simp; omega) ?_; intro g cap' w9 hr9 hg9 hat))
            refine ⟨⟨j + 1, xs ++ [⟨j + 1, labT z, .slice fb (frmK N (f j) 3).length fc, frmK N (f j) 3⟩], by simp, by omega, by simp; omega, ⟨by simpa [hxl] using hr9, by simp; omega, ?_⟩, grown_ext (hgw.trans (Ext.alloc (Ext.refl _) _)) (row_ext hxs2 (Ext.alloc (Ext.refl _) _)) (Nat.le_refl _) hg9⟩, by simp; omega⟩
            intro k hk
            have hfin : ∀ {B : Nat} {v : Value} {n' : Nat} {ys : List Value}, wr.ownsRow B 3 1 v n' ys → w9.ownsRow B 3 1 v n' ys := fun {B v n' ys} h => World.ownsRow.kept (row_ext h (Ext.alloc (Ext.refl _) _)) hg9 (row_ne h hxs2 (by decide))
            by_cases hkj : k < xs.length
            · have h1 := hM.2.2 k hkj
              rw [List.getElem_append_left hkj]
              exact ⟨h1.1, hfin (hlt2 h1.2)⟩
            · rw [List.getElem_append_right (by omega)]
              have hk0 : k - xs.length = 0 := by simp at hk; omega
              simp only [hk0, List.getElem_cons_zero]
              obtain rfl : k = j := by simp at hk; omega
              exact ⟨hmi, hfin (World.ownsRow.mono hrow (by omega))⟩
      · obtain rfl : j = N := by omega
        go_wp2_with (fail)
        go_ret
        exact ⟨_, xs, rfl, hM, hxl, hx⟩

end Go.Proofs.Ythdhlocoiipbaaa
