/-
  The messages that numbers determine, walked. Condition: the argument reads as rows of five ints.
-/
import Derived.Test.YthdhlocoiipbaaaFlE
import Derived.Laws.CopyOwn
namespace Go.Proofs.Ythdhlocoiipbaaa
set_option linter.unusedVariables false
set_option linter.unusedSimpArgs false
open Go.RowKit

def its1 (M z : Int) : List Int := if 0 < M ∧ z.tmod 3 ≠ 0 then [1 + z % M] else []
def itsT (M : Int) (g : Nat → Int) : List Int := its1 M (g 3) ++ its1 M (g 4)
def itsK (M : Int) (g : Nat → Int) (i : Nat) : List Int := (if 4 ≤ i then its1 M (g 3) else []) ++ (if 5 ≤ i then its1 M (g 4) else [])
theorem itsK_next (M : Int) (g : Nat → Int) {i : Nat} (h1 : 3 ≤ i) (h2 : i < 5) : itsK M g (i + 1) = itsK M g i ++ its1 M (g i) := by
  rcases (show i = 3 ∨ i = 4 by omega) with rfl | rfl <;> simp [itsK]
theorem its1_le (M z : Int) : (its1 M z).length ≤ 1 := by unfold its1; split <;> simp
theorem itsK_le (M : Int) (g : Nat → Int) (i : Nat) : (itsK M g i).length ≤ 2 := by
  unfold itsK
  have h1 := its1_le M (g 3)
  have h2 := its1_le M (g 4)
  rw [List.length_append]
  split <;> split <;> simp <;> omega
theorem itsK_end {M : Int} (g : Nat → Int) {i : Nat} (h : ¬ (i < 5 ∧ 0 < M)) (hi : i ≤ 5) : itsK M g i = itsT M g := by
  unfold itsK itsT
  by_cases hM : 0 < M
  · obtain rfl : i = 5 := by omega
    simp
  · have : ∀ z, its1 M z = [] := fun z => by unfold its1; rw [if_neg (fun h => hM h.1)]
    simp [this]
/-- m is the message number k that the rows determine. -/
def MessI (M : Int) (f : Nat → Nat → Int) (k : Nat) (m : Ms) : Prop := m.src = f k 0 % 6 ∧ m.dst = f k 1 % 6 ∧ m.tm = f k 2 % 12 ∧ m.its = itsT M (f k)
def MessS (B N : Nat) (M : Int) (f : Nat → Nat → Int) (w : World) (v : Value) (ms : List Ms) : Prop :=
  w.ownsRow B 48 4 v ms.length (ms.flatMap Ms.cs) ∧ ms.length ≤ N ∧ ∀ k (h : k < ms.length), MessI M f k ms[k] ∧ w.ownsRow B 3 1 ms[k].iv ms[k].its.length (ms[k].its.flatMap celI)

theorem mod_ext (n m : Int) (hm : 0 < m) (hm2 : m ≤ 1000000) (h : OkI n) (w : World) : Calls Try.prog 25 #[.int .i64 n, .int .i64 m] w fun e w' => e = .returned (.int .i64 (n % m)) ∧ Ext w w' :=
  (mod_any n m hm hm2 h w).mono fun e w' h => ⟨h.1, h.2 ▸ Ext.refl _⟩

set_option maxRecDepth 100000 in
set_option maxHeartbeats 4000000 in
theorem Messages_any (v : Value) (f : Nat → Nat → Int) (n : Nat) (M : Int) (w : World) (h : RA 5 w v f n) (hM : 0 ≤ M ∧ M ≤ 1000) :
    Calls Try.prog 17 #[v, .int .i64 M] w fun e w' => ∃ r ms, e = .returned r ∧ MessS w.heap.size 30 M f w' r ms ∧ ms.length = min n 30 ∧ Ext w w' := by
  have h' := h
  obtain ⟨A, cap, rfl, hn, hok, hcell⟩ := h
  obtain ⟨N, hN⟩ : ∃ N, min n 30 = N := ⟨_, rfl⟩
  have hN30 : N ≤ 30 := by omega
  have hNn : N ≤ n := by omega
  rw [hN]
  have HN := Lib.hid hN; clear hN
  have HC := Lib.hid hcell
  clear hcell h'
  go_enter Try.func17, Try.ntmps17
  go_upto_region 3 with (fail)
  go_loopw [5, 6] (fun o k wr => ∃ (j : Nat) (ms : List Ms), k = .int .i64 j ∧ j ≤ N ∧ ms.length = j ∧ MessS w.heap.size 30 M f wr o ms ∧ Ext w wr) (fun _ k _ => N - (iof k).toNat)
  case atStart => exact ⟨0, [], rfl, by omega, rfl, ⟨World.ownsRow_nil _ _ _ _, by simp, fun k h => by simp at h⟩, Ext.refl _⟩
  case round =>
    obtain ⟨j, ms, rfl, hj, hxl, hMs, hx⟩ := hrel
    by_cases hjN : j < N
    · obtain ⟨b, off, rfl, hcell⟩ := HC.out.resolve_left (by omega)
      have hjn : j < n := by omega
      have hj30 : (j : Int) < 30 := by omega
      have cc : ∀ i, i < 5 → wr.cell? ⟨b, off + j * 5 + i, none⟩ = some (.int .i64 (f j i)) := fun i hi => (hx.cells.1 _ _ (World.block_lt_of_cell? w _ (hcell j hjn i hi))).trans (hcell j hjn i hi)
      have l0 : b < wr.heap.size := World.block_lt_of_cell? wr ⟨b, off + j * 5 + 0, none⟩ (cc 0 (by decide))
      have c0 : wr.cell? ⟨b, off + j * 5, none⟩ = some (.int .i64 (f j 0)) := cc 0 (by decide)
      have c1 := cc 1 (by decide)
      have c2 := cc 2 (by decide)
      have HC2 := Lib.hid cc; clear cc hcell
      have hm0 := mod_ext (f j 0) 6 (by decide) (by decide) (hok j 0)
      have hm1 := mod_ext (f j 1) 6 (by decide) (by decide) (hok j 1)
      have hm2 := mod_ext (f j 2) 12 (by decide) (by decide) (hok j 2)
      generalize hy0 : f j 0 % 6 = y0 at *
      generalize hy1 : f j 1 % 6 = y1 at *
      generalize hy2 : f j 2 % 12 = y2 at *
      have HY := Lib.hid (And.intro hy0 (And.intro hy1 hy2)); clear hy0 hy1 hy2
      go_upto_region 5 with (fail)
      refine Rr.wp_region ((List.range 19).map (fun i => (i, .y)) ++ [(19, .m)]) (fun _ => (.cells #[.int .i64 0, .int .i64 0, .int .i64 0, .slice none 0 0] 48, Rg.ptr)) (by kernel_rfl) (by kernel_rfl) ?_
      simp only [List.range, List.range.loop, List.map_cons, List.map_nil, List.cons_append, List.nil_append]
      (refine Rr.wr_y (by simp only [List.getElem?_toArray, List.getElem?_cons_succ, List.getElem?_cons_zero]; rfl) (by rfl) ?_
       apply Exists.intro
       refine ⟨fun wz hw _ => ?_, ?_⟩
       · have hcz := hw.cells.1
         go_simp
         (with_reducible exact Rg.up_value)
       simp only [Act.put, List.setIfInBounds_toArray, List.set_cons_zero, List.set_cons_succ])
      (refine Rr.wr_y (by simp only [List.getElem?_toArray, List.getElem?_cons_succ, List.getElem?_cons_zero]; rfl) (by rfl) ?_
       apply Exists.intro
       refine ⟨fun wz hw _ => ?_, ?_⟩
       · have hcz := hw.cells.1
         go_simp
         (with_reducible exact Rg.up_value)
       simp only [Act.put, List.setIfInBounds_toArray, List.set_cons_zero, List.set_cons_succ])
      (refine Rr.wr_y (by simp only [List.getElem?_toArray, List.getElem?_cons_succ, List.getElem?_cons_zero]; rfl) (by rfl) ?_
       apply Exists.intro
       refine ⟨fun wz hw _ => ?_, ?_⟩
       · have hcz := hw.cells.1
         go_simp
         (with_reducible exact Rg.up_value)
       simp only [Act.put, List.setIfInBounds_toArray, List.set_cons_zero, List.set_cons_succ])
      (refine Rr.wr_y (by simp only [List.getElem?_toArray, List.getElem?_cons_succ, List.getElem?_cons_zero]; rfl) (by rfl) ?_
       apply Exists.intro
       refine ⟨fun wz hw _ => ?_, ?_⟩
       · have hcz := hw.cells.1
         go_simp
         (with_reducible exact Rg.up_value)
       simp only [Act.put, List.setIfInBounds_toArray, List.set_cons_zero, List.set_cons_succ])
      (refine Rr.wr_y (by simp only [List.getElem?_toArray, List.getElem?_cons_succ, List.getElem?_cons_zero]; rfl) (by rfl) ?_
       apply Exists.intro
       refine ⟨fun wz hw _ => ?_, ?_⟩
       · have hcz := hw.cells.1
         go_simp
         (with_reducible exact Rg.up_value)
       simp only [Act.put, List.setIfInBounds_toArray, List.set_cons_zero, List.set_cons_succ])
      (refine Rr.wr_y (by simp only [List.getElem?_toArray, List.getElem?_cons_succ, List.getElem?_cons_zero]; rfl) (by rfl) ?_
       apply Exists.intro
       refine ⟨fun wz hw _ => ?_, ?_⟩
       · have hcz := hw.cells.1
         go_simp
         apply Rg.up_enter
         (with_reducible refine (hm0 _).mono ?_)
         rintro e w3 ⟨rfl, hb3⟩
         exact ⟨rfl, hb3⟩
       simp only [Act.put, List.setIfInBounds_toArray, List.set_cons_zero, List.set_cons_succ])
      (refine Rr.wr_y (by simp only [List.getElem?_toArray, List.getElem?_cons_succ, List.getElem?_cons_zero]; rfl) (by rfl) ?_
       apply Exists.intro
       refine ⟨fun wz hw _ => ?_, ?_⟩
       · have hcz := hw.cells.1
         go_simp
         (with_reducible exact Rg.up_value)
       simp only [Act.put, List.setIfInBounds_toArray, List.set_cons_zero, List.set_cons_succ])
      (refine Rr.wr_y (by simp only [List.getElem?_toArray, List.getElem?_cons_succ, List.getElem?_cons_zero]; rfl) (by rfl) ?_
       apply Exists.intro
       refine ⟨fun wz hw _ => ?_, ?_⟩
       · have hcz := hw.cells.1
         go_simp
         (with_reducible exact Rg.up_value)
       simp only [Act.put, List.setIfInBounds_toArray, List.set_cons_zero, List.set_cons_succ])
      (refine Rr.wr_y (by simp only [List.getElem?_toArray, List.getElem?_cons_succ, List.getElem?_cons_zero]; rfl) (by rfl) ?_
       apply Exists.intro
       refine ⟨fun wz hw _ => ?_, ?_⟩
       · have hcz := hw.cells.1
         go_simp
         (with_reducible exact Rg.up_value)
       simp only [Act.put, List.setIfInBounds_toArray, List.set_cons_zero, List.set_cons_succ])
      (refine Rr.wr_y (by simp only [List.getElem?_toArray, List.getElem?_cons_succ, List.getElem?_cons_zero]; rfl) (by rfl) ?_
       apply Exists.intro
       refine ⟨fun wz hw _ => ?_, ?_⟩
       · have hcz := hw.cells.1
         go_simp
         (with_reducible exact Rg.up_value)
       simp only [Act.put, List.setIfInBounds_toArray, List.set_cons_zero, List.set_cons_succ])
      (refine Rr.wr_y (by simp only [List.getElem?_toArray, List.getElem?_cons_succ, List.getElem?_cons_zero]; rfl) (by rfl) ?_
       apply Exists.intro
       refine ⟨fun wz hw _ => ?_, ?_⟩
       · have hcz := hw.cells.1
         go_simp
         (with_reducible exact Rg.up_value)
       simp only [Act.put, List.setIfInBounds_toArray, List.set_cons_zero, List.set_cons_succ])
      (refine Rr.wr_y (by simp only [List.getElem?_toArray, List.getElem?_cons_succ, List.getElem?_cons_zero]; rfl) (by rfl) ?_
       apply Exists.intro
       refine ⟨fun wz hw _ => ?_, ?_⟩
       · have hcz := hw.cells.1
         go_simp
         apply Rg.up_enter
         (with_reducible refine (hm1 _).mono ?_)
         rintro e w3 ⟨rfl, hb3⟩
         exact ⟨rfl, hb3⟩
       simp only [Act.put, List.setIfInBounds_toArray, List.set_cons_zero, List.set_cons_succ])
      (refine Rr.wr_y (by simp only [List.getElem?_toArray, List.getElem?_cons_succ, List.getElem?_cons_zero]; rfl) (by rfl) ?_
       apply Exists.intro
       refine ⟨fun wz hw _ => ?_, ?_⟩
       · have hcz := hw.cells.1
         go_simp
         (with_reducible exact Rg.up_value)
       simp only [Act.put, List.setIfInBounds_toArray, List.set_cons_zero, List.set_cons_succ])
      (refine Rr.wr_y (by simp only [List.getElem?_toArray, List.getElem?_cons_succ, List.getElem?_cons_zero]; rfl) (by rfl) ?_
       apply Exists.intro
       refine ⟨fun wz hw _ => ?_, ?_⟩
       · have hcz := hw.cells.1
         go_simp
         (with_reducible exact Rg.up_value)
       simp only [Act.put, List.setIfInBounds_toArray, List.set_cons_zero, List.set_cons_succ])
      (refine Rr.wr_y (by simp only [List.getElem?_toArray, List.getElem?_cons_succ, List.getElem?_cons_zero]; rfl) (by rfl) ?_
       apply Exists.intro
       refine ⟨fun wz hw _ => ?_, ?_⟩
       · have hcz := hw.cells.1
         go_simp
         (with_reducible exact Rg.up_value)
       simp only [Act.put, List.setIfInBounds_toArray, List.set_cons_zero, List.set_cons_succ])
      (refine Rr.wr_y (by simp only [List.getElem?_toArray, List.getElem?_cons_succ, List.getElem?_cons_zero]; rfl) (by rfl) ?_
       apply Exists.intro
       refine ⟨fun wz hw _ => ?_, ?_⟩
       · have hcz := hw.cells.1
         go_simp
         (with_reducible exact Rg.up_value)
       simp only [Act.put, List.setIfInBounds_toArray, List.set_cons_zero, List.set_cons_succ])
      (refine Rr.wr_y (by simp only [List.getElem?_toArray, List.getElem?_cons_succ, List.getElem?_cons_zero]; rfl) (by rfl) ?_
       apply Exists.intro
       refine ⟨fun wz hw _ => ?_, ?_⟩
       · have hcz := hw.cells.1
         go_simp
         (with_reducible exact Rg.up_value)
       simp only [Act.put, List.setIfInBounds_toArray, List.set_cons_zero, List.set_cons_succ])
      (refine Rr.wr_y (by simp only [List.getElem?_toArray, List.getElem?_cons_succ, List.getElem?_cons_zero]; rfl) (by rfl) ?_
       apply Exists.intro
       refine ⟨fun wz hw _ => ?_, ?_⟩
       · have hcz := hw.cells.1
         go_simp
         apply Rg.up_enter
         (with_reducible refine (hm2 _).mono ?_)
         rintro e w3 ⟨rfl, hb3⟩
         exact ⟨rfl, hb3⟩
       simp only [Act.put, List.setIfInBounds_toArray, List.set_cons_zero, List.set_cons_succ])
      (refine Rr.wr_y (by simp only [List.getElem?_toArray, List.getElem?_cons_succ, List.getElem?_cons_zero]; rfl) (by rfl) ?_
       apply Exists.intro
       refine ⟨fun wz hw _ => ?_, ?_⟩
       · have hcz := hw.cells.1
         go_simp
         (with_reducible exact Rg.up_value)
       simp only [Act.put, List.setIfInBounds_toArray, List.set_cons_zero, List.set_cons_succ])
      refine Rr.wr_m (by simp only [List.getElem?_toArray, List.getElem?_cons_succ, List.getElem?_cons_zero]; rfl) (by rfl) (fun wz => by go_simp) (fun p hp => ?_)
      simp only [Act.put, List.setIfInBounds_toArray, List.set_cons_zero, List.set_cons_succ]
      refine Rr.wr_nil ?_
      intro wy hy hh
      obtain ⟨hb1, hb2⟩ := hh _ List.mem_cons_self
      simp only [List.length_cons, List.length_nil, List.drop_succ_cons, List.drop_zero, Nat.reduceAdd]
      refine wpList_store_row (hgd := rfl) 48 (.tmp 7) (.tmp 37) rfl p (by rfl) #[.int .i64 y0, .int .i64 y1, .int .i64 y2, .slice none 0 0] (by rfl) #[.int .i64 0, .int .i64 0, .int .i64 0, .slice none 0 0] 48 hb2 (by rfl) (by kernel_rfl) (by simp [Value.oneCell']) ?_
      have hbp := setRow_heap wy p _ #[.int .i64 y0, .int .i64 y1, .int .i64 y2, .slice none 0 0] 48 _ hb2
      have hx4 : Ext wr (wy.setRow p #[.int .i64 y0, .int .i64 y1, .int .i64 y2, .slice none 0 0]) := below_setRow hy hb1 _
      have hp4 : p < (wy.setRow p #[.int .i64 y0, .int .i64 y1, .int .i64 y2, .slice none 0 0]).heap.size := Rg.lt_of_heap hbp
      clear c0 c1 c2 hb2 hh hp
      generalize wy.setRow p #[.int .i64 y0, .int .i64 y1, .int .i64 y2, .slice none 0 0] = W4 at *
      clear hy
      obtain ⟨w2, hw2⟩ : ∃ w2, w2 = wr := ⟨wr, rfl⟩
      subst hw2
      go_upto_region 7 with (fail)
      go_loopw [8] (fun k wr => ∃ (i : Nat) (fv : Value), k = .int .i64 i ∧ 3 ≤ i ∧ i ≤ 5 ∧ wr.heap[p]? = some (.cells #[.int .i64 y0, .int .i64 y1, .int .i64 y2, fv] 48) ∧ wr.ownsRow W4.heap.size 3 1 fv (itsK M (f j) i).length ((itsK M (f j) i).flatMap celI) ∧ W4.grownBy wr (some p)) (fun k _ => 5 - (iof k).toNat)
      case atStart => exact ⟨3, _, rfl, by omega, by omega, hbp, by simpa [itsK] using World.ownsRow_nil _ _ _ _, ⟨rfl, rfl, rfl, Nat.le_refl _, fun _ _ _ => rfl⟩⟩
      case round =>
        obtain ⟨i, fv, rfl, hi1, hi5, hbq, hrow, hg⟩ := hrel
        by_cases hi : i < 5 ∧ 0 < M
        · obtain ⟨hi, hM0⟩ := hi
          have ci : wr.cell? ⟨b, off + j * 5 + i, none⟩ = some (.int .i64 (f j i)) := by
            have h1 := (hx4.cells.1 _ _ (World.block_lt_of_cell? w2 _ (HC2.out i hi))).trans (HC2.out i hi)
            have h2 := hg.block b (by have := hx4.size; omega) (by simp; omega)
            unfold World.cell? at h1 ⊢
            simp only [h2]
            exact h1
          have lbq : b < wr.heap.size := World.block_lt_of_cell? wr ⟨b, off + j * 5 + i, none⟩ ci
          have lpq : p < wr.heap.size := Rg.lt_of_heap hbq
          have hmi := mod_ext (f j i) M hM0 (by omega) (hok j i)
          have hyb := modZ_bd (f j i) (m := M) hM0
          have hnx := itsK_next M (f j) hi1 hi
          have hf1 : its1 M (f j i) = if 0 < M ∧ (f j i).tmod 3 ≠ 0 then [1 + f j i % M] else [] := rfl
          have htb := tmod_bd (f j i) (m := 3) (by decide)
          generalize hz : f j i % M = y at *
          generalize hfi : f j i = fi at *
          have Hnx := Lib.hid hnx; clear hnx hfi hz
          have q3 := cell_of_row wr p 3 _ _ _ hbq
          by_cases ht : fi.tmod 3 = 0
          · rw [if_neg (fun h => h.2 ht)] at hf1
            rw [hf1, List.append_nil] at Hnx
            go_wp2_with (fail)
            exact ⟨⟨i + 1, fv, by simp, by omega, by omega, hbq, by rw [Hnx.out]; exact hrow, hg⟩, by simp; omega⟩
          · rw [if_pos ⟨hM0, ht⟩] at hf1
            rw [hf1] at Hnx
            have hwr : IntKind.i64.wrap (1 + y) = 1 + y := by rw [IntKind.wrap_i64]; omega
            have hle := itsK_le M (f j) i
            go_upto_region 10 with (fail)
            refine Rr.wp_region ((List.range 11).map (fun i => (i, .y)) ++ [(11, .m)]) (fun _ => (.cells #[.int .i64 (1 + y)] 3, fun p => .slice (some ⟨p, 0, none⟩) 1 1)) (by kernel_rfl) (by kernel_rfl) ?_
            simp only [List.range, List.range.loop, List.map_cons, List.map_nil, List.cons_append, List.nil_append]
            (refine Rr.wr_y (by simp only [List.getElem?_toArray, List.getElem?_cons_succ, List.getElem?_cons_zero]; rfl) (by rfl) ?_
             apply Exists.intro
             refine ⟨fun wz hw _ => ?_, ?_⟩
             · have hcz := hw.cells.1
               go_simp
               (with_reducible exact Rg.up_value)
             simp only [Act.put, List.setIfInBounds_toArray, List.set_cons_zero, List.set_cons_succ])
            (refine Rr.wr_y (by simp only [List.getElem?_toArray, List.getElem?_cons_succ, List.getElem?_cons_zero]; rfl) (by rfl) ?_
             apply Exists.intro
             refine ⟨fun wz hw _ => ?_, ?_⟩
             · have hcz := hw.cells.1
               go_simp
               (with_reducible exact Rg.up_value)
             simp only [Act.put, List.setIfInBounds_toArray, List.set_cons_zero, List.set_cons_succ])
            (refine Rr.wr_y (by simp only [List.getElem?_toArray, List.getElem?_cons_succ, List.getElem?_cons_zero]; rfl) (by rfl) ?_
             apply Exists.intro
             refine ⟨fun wz hw _ => ?_, ?_⟩
             · have hcz := hw.cells.1
               go_simp
               (with_reducible exact Rg.up_value)
             simp only [Act.put, List.setIfInBounds_toArray, List.set_cons_zero, List.set_cons_succ])
            (refine Rr.wr_y (by simp only [List.getElem?_toArray, List.getElem?_cons_succ, List.getElem?_cons_zero]; rfl) (by rfl) ?_
             apply Exists.intro
             refine ⟨fun wz hw _ => ?_, ?_⟩
             · have hcz := hw.cells.1
               go_simp
               (with_reducible exact Rg.up_value)
             simp only [Act.put, List.setIfInBounds_toArray, List.set_cons_zero, List.set_cons_succ])
            (refine Rr.wr_y (by simp only [List.getElem?_toArray, List.getElem?_cons_succ, List.getElem?_cons_zero]; rfl) (by rfl) ?_
             apply Exists.intro
             refine ⟨fun wz hw _ => ?_, ?_⟩
             · have hcz := hw.cells.1
               go_simp
               (with_reducible exact Rg.up_value)
             simp only [Act.put, List.setIfInBounds_toArray, List.set_cons_zero, List.set_cons_succ])
            (refine Rr.wr_y (by simp only [List.getElem?_toArray, List.getElem?_cons_succ, List.getElem?_cons_zero]; rfl) (by rfl) ?_
             apply Exists.intro
             refine ⟨fun wz hw _ => ?_, ?_⟩
             · have hcz := hw.cells.1
               go_simp
               (with_reducible exact Rg.up_value)
             simp only [Act.put, List.setIfInBounds_toArray, List.set_cons_zero, List.set_cons_succ])
            (refine Rr.wr_y (by simp only [List.getElem?_toArray, List.getElem?_cons_succ, List.getElem?_cons_zero]; rfl) (by rfl) ?_
             apply Exists.intro
             refine ⟨fun wz hw _ => ?_, ?_⟩
             · have hcz := hw.cells.1
               go_simp
               (with_reducible exact Rg.up_value)
             simp only [Act.put, List.setIfInBounds_toArray, List.set_cons_zero, List.set_cons_succ])
            (refine Rr.wr_y (by simp only [List.getElem?_toArray, List.getElem?_cons_succ, List.getElem?_cons_zero]; rfl) (by rfl) ?_
             apply Exists.intro
             refine ⟨fun wz hw _ => ?_, ?_⟩
             · have hcz := hw.cells.1
               go_simp
               (with_reducible exact Rg.up_value)
             simp only [Act.put, List.setIfInBounds_toArray, List.set_cons_zero, List.set_cons_succ])
            (refine Rr.wr_y (by simp only [List.getElem?_toArray, List.getElem?_cons_succ, List.getElem?_cons_zero]; rfl) (by rfl) ?_
             apply Exists.intro
             refine ⟨fun wz hw _ => ?_, ?_⟩
             · have hcz := hw.cells.1
               go_simp
               (with_reducible exact Rg.up_value)
             simp only [Act.put, List.setIfInBounds_toArray, List.set_cons_zero, List.set_cons_succ])
            (refine Rr.wr_y (by simp only [List.getElem?_toArray, List.getElem?_cons_succ, List.getElem?_cons_zero]; rfl) (by rfl) ?_
             apply Exists.intro
             refine ⟨fun wz hw _ => ?_, ?_⟩
             · have hcz := hw.cells.1
               go_simp
               apply Rg.up_enter
               (with_reducible refine (hmi _).mono ?_)
               rintro e w3 ⟨rfl, hb3⟩
               exact ⟨rfl, hb3⟩
             simp only [Act.put, List.setIfInBounds_toArray, List.set_cons_zero, List.set_cons_succ])
            (refine Rr.wr_y (by simp only [List.getElem?_toArray, List.getElem?_cons_succ, List.getElem?_cons_zero]; rfl) (by rfl) ?_
             apply Exists.intro
             refine ⟨fun wz hw _ => ?_, ?_⟩
             · have hcz := hw.cells.1
               go_simp
               (with_reducible exact Rg.up_value)
             simp only [Act.put, List.setIfInBounds_toArray, List.set_cons_zero, List.set_cons_succ])
            refine Rr.wr_m (by simp only [List.getElem?_toArray, List.getElem?_cons_succ, List.getElem?_cons_zero]; rfl) (by rfl) (fun wz => by go_simp) (fun q hq => ?_)
            simp only [Act.put, List.setIfInBounds_toArray, List.set_cons_zero, List.set_cons_succ]
            refine Rr.wr_nil ?_
            intro wy' hy hh
            obtain ⟨hb1', hb2'⟩ := hh _ List.mem_cons_self
            simp only [List.length_cons, List.length_nil, List.drop_succ_cons, List.drop_zero, Nat.reduceAdd]
            have hbqy := (hy.block _ lpq).trans hbq
            refine append_g (cs := celI) (z := .int .i64 0) 28 3 8 Try.underlying28 (by kernel_rfl) (by rfl) (by decide) (by decide) rfl (.tmp 55) (.tmp 65) rfl W4.heap.size fv (itsK M (f j) i) (by rfl) (row_ext hrow hy) q (1 + y) (celI_len _) (by rfl) hb2' (by omega) (by have := hg.size; have := hy.size; omega) ?_
            intro g cap' w9 hr9 hg9 hat
            have hb9 : w9.heap[p]? = some (.cells #[.int .i64 y0, .int .i64 y1, .int .i64 y2, fv] 48) := (hg9.block _ (Rg.lt_of_heap hbqy) (fun e => by have := (hrow.lt _ e.symm).1; omega)).trans hbqy
            have q9 := cell_of_row w9 p 3 _ _ _ hb9
            have f9 : w9.frozen? ⟨p, 3, none⟩ = false := by simp [World.frozen?, hb9]
            go_wp2_with (fail)
            refine ⟨⟨i + 1, _, by simp, by omega, by omega, heap_setCell_same _ _ 3 _ _ _ hb9, ?_, ?_⟩, by simp; omega⟩
            · rw [Hnx.out]
              exact World.ownsRow.kept (by simpa using hr9) (grown_setCell _ _ 3 _) (.inr (by
                have h9 := (hr9.lt g rfl).1
                simp [Value.ownBlock]
                omega))
            · refine grown_more (grown_more (grown_more hg ⟨hy.os, hy.tape, hy.output, hy.size, fun k hk _ => hy.block k hk⟩ (row := none) (by simp)) hg9 (fun r hr => .inr (hrow.lt r hr).1)) (grown_setCell _ _ 3 _) (by simp)
        · have hle := itsK_le M (f j) i
          rw [itsK_end (f j) hi hi5] at hrow hle
          obtain ⟨fb, fc, rfl⟩ := (SR.of_row (cs := celI) (fun x => (celI_len x).1) hrow (by omega)).form
          have q0 := cell_of_row wr p 0 _ _ _ hbq
          have q1 := cell_of_row wr p 1 _ _ _ hbq
          have q2 := cell_of_row wr p 2 _ _ _ hbq
          have q3 := cell_of_row wr p 3 _ _ _ hbq
          have hxs := hMs.1
          have hlt2 : ∀ {E sz n' : Nat} {v : Value} {ys : List Value}, w2.ownsRow w.heap.size E sz v n' ys → wr.ownsRow w.heap.size E sz v n' ys := fun {E sz n' v ys} h => World.ownsRow.kept (row_ext h hx4) hg (by
            cases ho : v.ownBlock with
            | none => exact .inl rfl
            | some g =>
              have := (h.lt g ho).2
              exact .inr (by simp; omega))
          have hxs2 := hlt2 hxs
          have hmi : MessI M f j ⟨y0, y1, y2, .slice fb (itsT M (f j)).length fc, itsT M (f j)⟩ := ⟨HY.out.1.symm, HY.out.2.1.symm, HY.out.2.2.symm, rfl⟩
          have hgw : Ext w wr := Below.trans (Below.trans hx (hx4.mono hx.size)) ⟨hg.os, hg.tape, hg.output, hg.size, fun k hk => hg.block k (by have := hx4.size; have := hx.size; omega) (by have := hx.size; simp; omega)⟩
          have hfin : ∀ {w9 : World} {B : Nat} {v : Value} {n' : Nat} {ys : List Value}, (wr.alloc (.cells #[.int .i64 y0, .int .i64 y1, .int .i64 y2, .slice fb (itsT M (f j)).length fc] 48)).grownBy w9 u5.ownBlock → wr.ownsRow B 3 1 v n' ys → w9.ownsRow B 3 1 v n' ys := fun {w9 B v n' ys} hg9 h => World.ownsRow.kept (row_ext h (Ext.alloc (Ext.refl _) _)) hg9 (row_ne h hxs2 (by decide))
          generalize itsT M (f j) = it at *
          have hex : ¬ (i < 5) ∨ (i < 5 ∧ ¬ 0 < M) := by omega
          rcases hex with he | ⟨he, he2⟩
          all_goals
            go_wp2_with (at_builtin; go_loud (refine append_g (cs := Ms.cs) (z := .agg #[.int .i64 0, .int .i64 0, .int .i64 0, .slice none 0 0]) 36 48 48 Try.underlying36 (by kernel_rfl) (by rfl) (by decide) (by decide) rfl _ _ rfl w.heap.size _ ms (by rfl) (row_ext hxs2 (Ext.alloc (Ext.refl _) _)) wr.heap.size ⟨y0, y1, y2, .slice fb it.length fc, it⟩ ⟨rfl, by simp [Ms.cs, Value.oneCell']⟩ (by rfl) (World.alloc_heap_new _ _) (by omega) (by have := hgw.size; simp; omega) ?_; intro g cap' w9 hr9 hg9 hat))
            refine ⟨⟨j + 1, ms ++ [⟨y0, y1, y2, .slice fb it.length fc, it⟩], by simp, by omega, by simp; omega, ⟨by simpa [hxl] using hr9, by simp; omega, ?_⟩, grown_ext (hgw.trans (Ext.alloc (Ext.refl _) _)) (row_ext hxs2 (Ext.alloc (Ext.refl _) _)) (Nat.le_refl _) hg9⟩, by simp; omega⟩
            intro k hk
            by_cases hkj : k < ms.length
            · have h1 := hMs.2.2 k hkj
              rw [List.getElem_append_left hkj]
              exact ⟨h1.1, hfin hg9 (hlt2 h1.2)⟩
            · rw [List.getElem_append_right (by omega)]
              have hk0 : k - ms.length = 0 := by simp at hk; omega
              simp only [hk0, List.getElem_cons_zero]
              obtain rfl : k = j := by simp at hk; omega
              exact ⟨hmi, hfin hg9 (World.ownsRow.mono hrow (by have := hx.size; have := hx4.size; omega))⟩
    · obtain rfl : j = N := by omega
      have hex : (¬ (j : Int) < n) ∨ ((j : Int) < n ∧ ¬ (j : Int) < 30) := by have := HN.out; omega
      rcases hex with he | ⟨he, he2⟩
      all_goals
        go_wp2_with (fail)
        go_ret
        exact ⟨_, rfl, ms, hMs, hxl, hx⟩

end Go.Proofs.Ythdhlocoiipbaaa
