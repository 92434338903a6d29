/-
  Joined: the lemmas of this claim that other texts of it use, part 2. Nothing is asked.
-/
import Derived.Test.YtbeoihjfjkbfhaaJnA
import Derived.RangeFuncBox
import Derived.RangeFuncLeaves
import Derived.RangeFuncNested
import Derived.RangeFuncBound
import Derived.RangeFuncCalls
import Derived.Shelf.Abstract
import Derived.OwnWalkIn
import Derived.TacticsInMore
import Derived.LoopNIn
import Derived.LoopIn
import Derived.Sort.BigQuietIn
import Derived.Sort.QuietIn
import Derived.Laws.IdiomStrings
namespace Go.Proofs.Ytbeoihjfjkbfhaa
set_option linter.unusedVariables false
set_option linter.unusedSimpArgs false
open Go.RowKit

def sigS (x : Int) : Int := xor32 (xor32 (rotr x 7) (rotr x 18)) (x / 8)
def sigT (x : Int) : Int := xor32 (xor32 (rotr x 17) (rotr x 19)) (x / 1024)
def nextW (bs l : List Int) (i : Nat) : Int :=
  if i < 16 then wordE (bs.getD (4 * i) 0) (bs.getD (4 * i + 1) 0) (bs.getD (4 * i + 2) 0) (bs.getD (4 * i + 3) 0)
  else (l.getD (i - 16) 0 + sigS (l.getD (i - 15) 0) + l.getD (i - 7) 0 + sigT (l.getD (i - 2) 0)) % 4294967296
/-- The first n words of a block. -/
def sched (bs : List Int) : Nat → List Int
  | 0 => []
  | n + 1 => sched bs n ++ [nextW bs (sched bs n) n]
theorem sched_len (bs : List Int) (n : Nat) : (sched bs n).length = n := by
  induction n with
  | zero => rfl
  | succ n ih => simp [sched, ih]
/-- A row of 64 words of which the first are these. -/
def rowW (l : List Int) : Array Value := (l.map (Value.int .u32) ++ List.replicate (64 - l.length) (Value.int .u32 0)).toArray
theorem rowW_get {l : List Int} {k : Nat} (h : k < l.length) : (rowW l)[k]? = some (.int .u32 (l.getD k 0)) := by
  unfold rowW
  rw [List.getElem?_toArray, List.getElem?_append_left (by simpa using h)]
  simp [h]
theorem rowW_set {l : List Int} (x : Int) (h : l.length < 64) : (rowW l).setIfInBounds l.length (.int .u32 x) = rowW (l ++ [x]) := by
  unfold rowW
  rw [List.setIfInBounds_toArray, List.set_append_right _ _ (by simp), show 64 - l.length = (64 - (l ++ [x]).length) + 1 by simp; omega, List.replicate_succ]
  simp
theorem rowW_size {l : List Int} (h : l.length ≤ 64) : (rowW l).size = 64 := by simp [rowW]; omega
theorem rowW_one (l : List Int) : ∀ v ∈ (rowW l).toList, v.oneCell' = true := by
  intro v hv
  simp only [rowW, List.mem_append, List.mem_map, List.mem_replicate] at hv
  rcases hv with ⟨x, -, rfl⟩ | ⟨-, rfl⟩ <;> rfl
set_option maxRecDepth 100000 in
set_option maxHeartbeats 4000000 in
theorem sched_any (b off len cap : Nat) (bs : List Int) (w : World) (h4 : 64 ≤ len) (h5 : 64 ≤ cap) (hb : b < w.heap.size) (hl : bs.length = 64) (h0 : ∀ k (h : k < bs.length), 0 ≤ bs[k] ∧ bs[k] < 256)
    (hc : ∀ k (h : k < bs.length), w.cell? ⟨b, off + k, none⟩ = some (.int .u8 bs[k])) :
    Calls Try.prog 67 #[.slice (some ⟨b, off, none⟩) len cap] w fun e w' => e = .returned (.agg (rowW (sched bs 64))) ∧ Ext w w' := by
  go_enter Try.func67, Try.ntmps67
  go_upto_region 2 with (fail)
  change Code.wp _ _ _ _ ((w.alloc (.cells (rowW []) 109)).alloc (.cells (rowW []) 109))
  obtain ⟨p, hp⟩ : ∃ p, p = w.heap.size := ⟨_, rfl⟩
  have hx1 : Ext w ((w.alloc (.cells (rowW []) 109)).alloc (.cells (rowW []) 109)) := Ext.alloc (Ext.alloc (Ext.refl _) _) _
  have hq : ((w.alloc (.cells (rowW []) 109)).alloc (.cells (rowW []) 109)).heap[p]? = some (.cells (rowW []) 109) := by
    rw [hp, alloc_old _ (by simp), alloc_at]
  have hr : ((w.alloc (.cells (rowW []) 109)).alloc (.cells (rowW []) 109)).heap[p + 1]? = some (.cells (rowW []) 109) := by
    have := alloc_at (w.alloc (.cells (rowW []) 109)) (.cells (rowW []) 109)
    rw [hp]
    simpa using this
  generalize ((w.alloc (.cells (rowW []) 109)).alloc (.cells (rowW []) 109)) = W1 at *
  rw [← hp]
  have HP := Lib.hid hp
  clear hp
  go_wp2_with (fail)
  go_loopw [9] (fun k wr => ∃ i : Nat, k = .int .i64 i ∧ i ≤ 64 ∧ Hid (wr.heap[p + 1]? = some (.cells (rowW (sched bs i)) 109)) ∧ Hid (wr.heap[p]? = some (.cells (rowW []) 109)) ∧ Ext w wr) (fun k _ => 64 - (iof k).toNat)
  case atStart => exact ⟨0, rfl, by omega, Lib.hid hr, Lib.hid hq, hx1⟩
  case round =>
    obtain ⟨i, rfl, hi, HR, HQ, hx⟩ := hrel
    by_cases hi64 : i < 64
    · by_cases hi16 : i < 16
      · have HN : Hid (nextW bs (sched bs i) i = wordE (bs[4 * i]'(by omega)) (bs[4 * i + 1]'(by omega)) (bs[4 * i + 2]'(by omega)) (bs[4 * i + 3]'(by omega))) := Lib.hid (by
          unfold nextW
          rw [if_pos hi16]
          simp [List.getD_eq_getElem?_getD, show 4 * i < bs.length by omega, show 4 * i + 1 < bs.length by omega, show 4 * i + 2 < bs.length by omega, show 4 * i + 3 < bs.length by omega])
        have HC : Hid (Calls Try.prog 78 #[.slice (some ⟨b, off + 4 * i, none⟩) (len - 4 * i) (cap - 4 * i)] wr fun e w' => e = .returned (.int .u32 (nextW bs (sched bs i) i)) ∧ ∃ k, w' = wr.drewN k) := Lib.hid (by
          rw [HN.out]
          have cc : ∀ k (h : k < bs.length), wr.cell? ⟨b, off + k, none⟩ = some (.int .u8 bs[k]) := fun k h => (hx.cells.1 _ _ hb).trans (hc k h)
          have c0 := cc (4 * i) (by omega); have c1 := cc (4 * i + 1) (by omega); have c2 := cc (4 * i + 2) (by omega); have c3 := cc (4 * i + 3) (by omega)
          exact word_any b (off + 4 * i) (len - 4 * i) (cap - 4 * i) _ _ _ _ wr (by omega) (h0 _ _) (h0 _ _) (h0 _ _) (h0 _ _) c0 c1 c2 c3)
        have HS := Lib.hid (sched_len bs i)
        have HY : Hid (sched bs (i + 1) = sched bs i ++ [nextW bs (sched bs i) i]) := Lib.hid rfl
        generalize nextW bs (sched bs i) i = x at *
        generalize sched bs i = l at *
        have hp1 := Rg.lt_of_heap HR.out
        have cr := cell_of_row wr (p + 1) i _ _ _ HR.out
        have hlw := HS.out
        obtain ⟨z, hz⟩ : ∃ z, (rowW l)[i]? = some z := ⟨_, Array.getElem?_eq_getElem (by rw [rowW_size (by omega)]; exact hi64)⟩
        rw [hz] at cr
        have hcap : 4 * i < cap := by omega
        clear hlw
        have fr : wr.frozen? ⟨p + 1, i, none⟩ = false := (Rg.cells_of HR.out).2.1 _
        go_wp2_with (go_at_call 78; (with_reducible refine (HC.out).mono ?_); rintro e w2 ⟨rfl, k, rfl⟩)
        have HR2 := heap_setCell_row (w := wr.drewN k) (o := i) (.int .u32 x) HR.out
        have e1 : (rowW l).setIfInBounds i (.int .u32 x) = rowW (l ++ [x]) := by
          have := rowW_set x (l := l) (by rw [HS.out]; exact hi64)
          rwa [HS.out] at this
        rw [e1] at HR2
        exact ⟨⟨i + 1, by simp, by omega, Lib.hid (by rw [HY.out]; exact HR2), Lib.hid ((heap_setCell_other _ (by omega)).trans HQ.out), Below.setCell (hx.drewN k) (by have := HP.out; simp; omega) _⟩, by simp [iof]; omega⟩
      · have hgd : ∀ k (h : k < (sched bs i).length), wr.cell? ⟨p + 1, k, none⟩ = some (.int .u32 ((sched bs i).getD k 0)) := fun k h => by
          rw [cell_of_row wr (p + 1) k _ _ _ HR.out, rowW_get h]
        have HN : Hid (nextW bs (sched bs i) i = ((sched bs i).getD (i - 16) 0 + sigS ((sched bs i).getD (i - 15) 0) + (sched bs i).getD (i - 7) 0 + sigT ((sched bs i).getD (i - 2) 0)) % 4294967296) := Lib.hid (by
          unfold nextW
          rw [if_neg (by omega)])
        have HS := Lib.hid (sched_len bs i)
        have HY : Hid (sched bs (i + 1) = sched bs i ++ [nextW bs (sched bs i) i]) := Lib.hid rfl
        generalize nextW bs (sched bs i) i = x at *
        generalize sched bs i = l at *
        have hlw := HS.out
        have c0 := hgd (i - 16) (by omega); have c1 := hgd (i - 15) (by omega); have c9 := hgd (i - 7) (by omega); have c14 := hgd (i - 2) (by omega)
        generalize l.getD (i - 16) 0 = y0 at *; generalize l.getD (i - 15) 0 = y1 at *; generalize l.getD (i - 7) 0 = y9 at *; generalize l.getD (i - 2) 0 = y14 at *
        have hp1 := Rg.lt_of_heap HR.out
        have cr := cell_of_row wr (p + 1) i _ _ _ HR.out
        obtain ⟨z, hz⟩ : ∃ z, (rowW l)[i]? = some z := ⟨_, Array.getElem?_eq_getElem (by rw [rowW_size (by omega)]; exact hi64)⟩
        rw [hz] at cr
        have fr : wr.frozen? ⟨p + 1, i, none⟩ = false := (Rg.cells_of HR.out).2.1 _
        clear hlw hgd
        have H7 := Lib.hid (rotl_at y1 (-7) 7 (by decide)); have H18 := Lib.hid (rotl_at y1 (-18) 18 (by decide))
        have H17 := Lib.hid (rotl_at y14 (-17) 17 (by decide)); have H19 := Lib.hid (rotl_at y14 (-19) 19 (by decide))
        unfold sigS sigT xor32 at HN
        generalize rotr y1 7 = r7 at *; generalize rotr y1 18 = r18 at *; generalize rotr y14 17 = r17 at *; generalize rotr y14 19 = r19 at *
        go_upto_region 7 with (fail)
        go_quiet (fail)
        go_upto_region 10 with (go_at_call 79; (with_reducible first | refine (H7.out _).mono ?_ | refine (H18.out _).mono ?_ | refine (H17.out _).mono ?_ | refine (H19.out _).mono ?_); rintro e w2 ⟨rfl, hw2⟩; have h9 := hw2.symm; clear hw2; subst h9)
        generalize bits BinOp.xor IntKind.u32 (bits BinOp.xor IntKind.u32 r7 r18) (y1 / 8) = sx at *
        generalize bits BinOp.xor IntKind.u32 (bits BinOp.xor IntKind.u32 r17 r19) (y14 / 1024) = tx at *
        have t3 : IntKind.i64.wrap ((i : Int) - 16) = ((i - 16 : Nat) : Int) := by rw [IntKind.wrap_i64]; omega
        have t4 : IntKind.i64.wrap ((i : Int) - 7) = ((i - 7 : Nat) : Int) := by rw [IntKind.wrap_i64]; omega
        have t5 : ((i - 16 : Nat) : Int) < 64 := by omega
        have t6 : ((i - 7 : Nat) : Int) < 64 := by omega
        have d0 : (wr.drewN nq).cell? ⟨p + 1, i - 16, none⟩ = some (.int .u32 y0) := c0
        have d9 : (wr.drewN nq).cell? ⟨p + 1, i - 7, none⟩ = some (.int .u32 y9) := c9
        have dr : (wr.drewN nq).cell? ⟨p + 1, i, none⟩ = some z := cr
        have df : (wr.drewN nq).frozen? ⟨p + 1, i, none⟩ = false := fr
        have dp : p + 1 < (wr.drewN nq).heap.size := hp1
        have DX : Hid (Ext w (wr.drewN nq)) := Lib.hid (hx.drewN nq)
        have DR : Hid ((wr.drewN nq).heap[p + 1]? = some (.cells (rowW l) 109)) := Lib.hid HR.out
        have DQ : Hid ((wr.drewN nq).heap[p]? = some (.cells (rowW []) 109)) := Lib.hid HQ.out
        clear c0 c9 cr fr hp1 c1 c14
        generalize wr.drewN nq = W2 at *
        refine Rr.wp_region [(0, .y), (1, .y), (2, .y), (3, .y), (4, .y), (5, .y), (6, .y), (7, .y), (8, .y), (9, .y), (10, .y), (11, .y), (12, .y), (13, .y), (14, .y)] (fun _ => (.cells #[] 29, Rg.ptr)) (by kernel_rfl) (by kernel_rfl) ?_
        (refine Rr.wr_y (by simp only [List.getElem?_toArray, List.getElem?_cons_succ, List.getElem?_cons_zero]; rfl) (by rfl) ?_
         apply Exists.intro
         refine ⟨fun wz hw _ => ?_, ?_⟩
         · have hcz := hw.cells.1
           go_simp
           (with_reducible exact Rg.up_value)
         simp only [Act.put, List.setIfInBounds_toArray, List.set_cons_zero, List.set_cons_succ])
        (refine Rr.wr_y (by simp only [List.getElem?_toArray, List.getElem?_cons_succ, List.getElem?_cons_zero]; rfl) (by rfl) ?_
         apply Exists.intro
         refine ⟨fun wz hw _ => ?_, ?_⟩
         · have hcz := hw.cells.1
           go_simp
           (with_reducible exact Rg.up_value)
         simp only [Act.put, List.setIfInBounds_toArray, List.set_cons_zero, List.set_cons_succ])
        (refine Rr.wr_y (by simp only [List.getElem?_toArray, List.getElem?_cons_succ, List.getElem?_cons_zero]; rfl) (by rfl) ?_
         apply Exists.intro
         refine ⟨fun wz hw _ => ?_, ?_⟩
         · have hcz := hw.cells.1
           go_simp
           (with_reducible exact Rg.up_value)
         simp only [Act.put, List.setIfInBounds_toArray, List.set_cons_zero, List.set_cons_succ])
        (refine Rr.wr_y (by simp only [List.getElem?_toArray, List.getElem?_cons_succ, List.getElem?_cons_zero]; rfl) (by rfl) ?_
         apply Exists.intro
         refine ⟨fun wz hw _ => ?_, ?_⟩
         · have hcz := hw.cells.1
           go_simp
           (with_reducible exact Rg.up_value)
         simp only [Act.put, List.setIfInBounds_toArray, List.set_cons_zero, List.set_cons_succ])
        (refine Rr.wr_y (by simp only [List.getElem?_toArray, List.getElem?_cons_succ, List.getElem?_cons_zero]; rfl) (by rfl) ?_
         apply Exists.intro
         refine ⟨fun wz hw _ => ?_, ?_⟩
         · have hcz := hw.cells.1
           go_simp
           (with_reducible exact Rg.up_value)
         simp only [Act.put, List.setIfInBounds_toArray, List.set_cons_zero, List.set_cons_succ])
        (refine Rr.wr_y (by simp only [List.getElem?_toArray, List.getElem?_cons_succ, List.getElem?_cons_zero]; rfl) (by rfl) ?_
         apply Exists.intro
         refine ⟨fun wz hw _ => ?_, ?_⟩
         · have hcz := hw.cells.1
           go_simp
           (with_reducible exact Rg.up_value)
         simp only [Act.put, List.setIfInBounds_toArray, List.set_cons_zero, List.set_cons_succ])
        (refine Rr.wr_y (by simp only [List.getElem?_toArray, List.getElem?_cons_succ, List.getElem?_cons_zero]; rfl) (by rfl) ?_
         apply Exists.intro
         refine ⟨fun wz hw _ => ?_, ?_⟩
         · have hcz := hw.cells.1
           go_simp
           (with_reducible exact Rg.up_value)
         simp only [Act.put, List.setIfInBounds_toArray, List.set_cons_zero, List.set_cons_succ])
        (refine Rr.wr_y (by simp only [List.getElem?_toArray, List.getElem?_cons_succ, List.getElem?_cons_zero]; rfl) (by rfl) ?_
         apply Exists.intro
         refine ⟨fun wz hw _ => ?_, ?_⟩
         · have hcz := hw.cells.1
           go_simp
           (with_reducible exact Rg.up_value)
         simp only [Act.put, List.setIfInBounds_toArray, List.set_cons_zero, List.set_cons_succ])
        (refine Rr.wr_y (by simp only [List.getElem?_toArray, List.getElem?_cons_succ, List.getElem?_cons_zero]; rfl) (by rfl) ?_
         apply Exists.intro
         refine ⟨fun wz hw _ => ?_, ?_⟩
         · have hcz := hw.cells.1
           go_simp
           (with_reducible exact Rg.up_value)
         simp only [Act.put, List.setIfInBounds_toArray, List.set_cons_zero, List.set_cons_succ])
        (refine Rr.wr_y (by simp only [List.getElem?_toArray, List.getElem?_cons_succ, List.getElem?_cons_zero]; rfl) (by rfl) ?_
         apply Exists.intro
         refine ⟨fun wz hw _ => ?_, ?_⟩
         · have hcz := hw.cells.1
           go_simp
           (with_reducible exact Rg.up_value)
         simp only [Act.put, List.setIfInBounds_toArray, List.set_cons_zero, List.set_cons_succ])
        (refine Rr.wr_y (by simp only [List.getElem?_toArray, List.getElem?_cons_succ, List.getElem?_cons_zero]; rfl) (by rfl) ?_
         apply Exists.intro
         refine ⟨fun wz hw _ => ?_, ?_⟩
         · have hcz := hw.cells.1
           go_simp
           (with_reducible exact Rg.up_value)
         simp only [Act.put, List.setIfInBounds_toArray, List.set_cons_zero, List.set_cons_succ])
        (refine Rr.wr_y (by simp only [List.getElem?_toArray, List.getElem?_cons_succ, List.getElem?_cons_zero]; rfl) (by rfl) ?_
         apply Exists.intro
         refine ⟨fun wz hw _ => ?_, ?_⟩
         · have hcz := hw.cells.1
           go_simp
           (with_reducible exact Rg.up_value)
         simp only [Act.put, List.setIfInBounds_toArray, List.set_cons_zero, List.set_cons_succ])
        (refine Rr.wr_y (by simp only [List.getElem?_toArray, List.getElem?_cons_succ, List.getElem?_cons_zero]; rfl) (by rfl) ?_
         apply Exists.intro
         refine ⟨fun wz hw _ => ?_, ?_⟩
         · have hcz := hw.cells.1
           go_simp
           (with_reducible exact Rg.up_value)
         simp only [Act.put, List.setIfInBounds_toArray, List.set_cons_zero, List.set_cons_succ])
        (refine Rr.wr_y (by simp only [List.getElem?_toArray, List.getElem?_cons_succ, List.getElem?_cons_zero]; rfl) (by rfl) ?_
         apply Exists.intro
         refine ⟨fun wz hw _ => ?_, ?_⟩
         · have hcz := hw.cells.1
           go_simp
           (with_reducible exact Rg.up_value)
         simp only [Act.put, List.setIfInBounds_toArray, List.set_cons_zero, List.set_cons_succ])
        (refine Rr.wr_y (by simp only [List.getElem?_toArray, List.getElem?_cons_succ, List.getElem?_cons_zero]; rfl) (by rfl) ?_
         apply Exists.intro
         refine ⟨fun wz hw _ => ?_, ?_⟩
         · have hcz := hw.cells.1
           go_simp
           (with_reducible exact Rg.up_value)
         simp only [Act.put, List.setIfInBounds_toArray, List.set_cons_zero, List.set_cons_succ])
        refine Rr.wr_nil ?_
        intro wy hy hh
        simp only [List.length_cons, List.length_nil, List.drop_succ_cons, List.drop_zero, Nat.reduceAdd]
        have dr' : wy.cell? ⟨p + 1, i, none⟩ = some z := (hy.cells.1 _ _ dp).trans dr
        have df' : wy.frozen? ⟨p + 1, i, none⟩ = false := (hy.cells.2 _ _ dp).trans df
        go_wp2_with (fail)
        rw [← HN.out]
        have HR2 := heap_setCell_row (w := wy) (o := i) (.int .u32 x) ((hy.block _ (Rg.lt_of_heap DR.out)).trans DR.out)
        have e1 : (rowW l).setIfInBounds i (.int .u32 x) = rowW (l ++ [x]) := by
          have := rowW_set x (l := l) (by rw [HS.out]; exact hi64)
          rwa [HS.out] at this
        rw [e1] at HR2
        exact ⟨⟨i + 1, by simp, by omega, Lib.hid (by rw [HY.out]; exact HR2), Lib.hid ((heap_setCell_other _ (by omega)).trans ((hy.block _ (Rg.lt_of_heap DQ.out)).trans DQ.out)), Below.setCell (DX.out.trans hy) (by have := HP.out; simp; omega) _⟩, by simp [iof]; omega⟩
    · obtain rfl : i = 64 := by omega
      have hsz : (rowW (sched bs 64)).size = 64 := rowW_size (by rw [sched_len]; omega)
      have ho := rowW_one (sched bs 64)
      obtain ⟨R, hRe⟩ : ∃ R, R = rowW (sched bs 64) := ⟨_, rfl⟩
      rw [← hRe] at HR hsz ho
      have HE := Lib.hid hRe
      clear hRe
      go_wp2_with (first
        | (refine wpList_load_row (hgd := rfl) 109 (.tmp 3) rfl (p + 1) (by rfl) 109 _ _ _ HR.out Try.underlying109 rfl (by rw [hsz]; kernel_rfl) ?_)
        | (refine wpList_store_row (hgd := rfl) 109 (.tmp 2) (.tmp 61) rfl p (by rfl) R (by rfl) _ 109 HQ.out (by rw [hsz]; rfl) (by rw [hsz]; kernel_rfl) ho ?_))
      refine bodyPost_ret (v := .agg R) (results_cell_row Try.results67 _ _ p 109 _ _ _ (by rfl) (setRow_heap _ _ _ _ _ _ HQ.out) Try.underlying109 rfl (by rw [hsz]; kernel_rfl)) rfl ⟨by rw [HE.out], below_setRow hx (by have := HP.out; omega) _⟩
end Go.Proofs.Ytbeoihjfjkbfhaa

namespace Go.Proofs.Ytbeoihjfjkbfhaa
set_option linter.unusedVariables false
set_option linter.unusedSimpArgs false
open Go.RowKit

def K64 : List Int := [1116352408, 1899447441, 3049323471, 3921009573, 961987163, 1508970993, 2453635748, 2870763221, 3624381080, 310598401, 607225278, 1426881987, 1925078388, 2162078206, 2614888103, 3248222580, 3835390401, 4022224774, 264347078, 604807628, 770255983, 1249150122, 1555081692, 1996064986, 2554220882, 2821834349, 2952996808, 3210313671, 3336571891, 3584528711, 113926993, 338241895, 666307205, 773529912, 1294757372, 1396182291, 1695183700, 1986661051, 2177026350, 2456956037, 2730485921, 2820302411, 3259730800, 3345764771, 3516065817, 3600352804, 4094571909, 275423344, 430227734, 506948616, 659060556, 883997877, 958139571, 1322822218, 1537002063, 1747873779, 1955562222, 2024104815, 2227730452, 2361852424, 2428436474, 2756734187, 3204031479, 3329325298]
def H8 : List Int := [1779033703, 3144134277, 1013904242, 2773480762, 1359893119, 2600822924, 528734635, 1541459225]
/-- A row of words. -/
def rowN (l : List Int) : Array Value := (l.map (Value.int .u32)).toArray
theorem rowN_one (l : List Int) : ∀ v ∈ (rowN l).toList, v.oneCell' = true := by
  intro v hv
  simp only [rowN, List.mem_map] at hv
  obtain ⟨x, -, rfl⟩ := hv
  rfl
theorem rowN_get {l : List Int} {k : Nat} (h : k < l.length) : (rowN l)[k]? = some (.int .u32 (l.getD k 0)) := by
  unfold rowN
  simp [h]
theorem rowN_set {l : List Int} {k : Nat} (x : Int) : (rowN l).setIfInBounds k (.int .u32 x) = rowN (l.set k x) := by
  unfold rowN
  simp
set_option maxRecDepth 100000 in
theorem start_any (w : World) : Calls Try.prog 49 #[] w fun e w' => e = .returned (.agg (rowN H8)) ∧ Ext w w' := by
  have e8 : rowN H8 = #[.int .u32 1779033703, .int .u32 3144134277, .int .u32 1013904242, .int .u32 2773480762, .int .u32 1359893119, .int .u32 2600822924, .int .u32 528734635, .int .u32 1541459225] := rfl
  rw [e8]
  go_enter Try.func49, Try.ntmps49
  go_wp2
  exact bodyPost_ret (v := .agg #[.int .u32 1779033703, .int .u32 3144134277, .int .u32 1013904242, .int .u32 2773480762, .int .u32 1359893119, .int .u32 2600822924, .int .u32 528734635, .int .u32 1541459225]) (by simp [results, Try.results49, go_sem]) rfl ⟨rfl, (by with_reducible repeat (first | exact Ext.refl _ | assumption | apply Ext.drewN | apply Ext.drew | apply Ext.alloc | (refine Ext.setCell ?_ (by simp <;> omega) _) | (refine Ext.trans ?_ (by assumption))))⟩
set_option maxRecDepth 100000 in
set_option maxHeartbeats 4000000 in
theorem rounds_any (w : World) : Calls Try.prog 68 #[] w fun e w' => e = .returned (.agg (rowN K64)) ∧ Ext w w' := by
  go_enter Try.func68, Try.ntmps68
  go_upto_region 1 with (fail)
  change Code.wp _ _ _ _ (w.alloc (.cells (rowW []) 109))
  obtain ⟨p, hp⟩ : ∃ p, p = w.heap.size := ⟨_, rfl⟩
  have hx1 : Ext w (w.alloc (.cells (rowW []) 109)) := Ext.alloc (Ext.refl _) _
  have hq : (w.alloc (.cells (rowW []) 109)).heap[p]? = some (.cells (rowW []) 109) := by rw [hp, alloc_at]
  generalize (w.alloc (.cells (rowW []) 109)) = W1 at *
  rw [← hp]
  have HP := Lib.hid hp
  clear hp
  have HQ := Lib.hid hq
  clear hq
  go_wp2_with (refine wpList_store_row (hgd := rfl) 109 (.tmp 0) (.tmp 1) rfl p (by rfl) (rowN K64) (by rfl) _ 109 HQ.out (by rfl) (by kernel_rfl) (rowN_one _) ?_)
  refine bodyPost_ret (v := .agg (rowN K64)) (results_cell_row Try.results68 _ _ p 109 _ _ _ (by rfl) (setRow_heap _ _ _ _ _ _ HQ.out) Try.underlying109 rfl (by kernel_rfl)) rfl ⟨rfl, below_setRow hx1 (by have := HP.out; omega) _⟩
end Go.Proofs.Ytbeoihjfjkbfhaa

namespace Go.Proofs.Ytbeoihjfjkbfhaa
set_option linter.unusedVariables false
set_option linter.unusedSimpArgs false
open Go.RowKit

structure S8 where
  a : Int
  b : Int
  c : Int
  d : Int
  e : Int
  f : Int
  g : Int
  h : Int
def S8.l (s : S8) : List Int := [s.a, s.b, s.c, s.d, s.e, s.f, s.g, s.h]
def not32 (x : Int) : Int := bits BinOp.xor IntKind.u32 (if IntKind.u32.signed = true then -1 else IntKind.u32.max) x
def chS (e f g : Int) : Int := xor32 (and32 e f) (and32 (not32 e) g)
def majS (a b c : Int) : Int := xor32 (xor32 (and32 a b) (and32 a c)) (and32 b c)
def rndT (s : S8) (k w : Int) : Int := ((s.h + mix3 s.e 6 11 25 + chS s.e s.f s.g + k) % 4294967296 + w) % 4294967296
def rndU (s : S8) : Int := (mix3 s.a 2 13 22 + majS s.a s.b s.c) % 4294967296
def rndS (s : S8) (k w : Int) : S8 := ⟨(rndT s k w + rndU s) % 4294967296, s.a, s.b, s.c, (s.d + rndT s k w) % 4294967296, s.e, s.f, s.g⟩
def rnds (ws : List Int) (s : S8) : Nat → S8
  | 0 => s
  | n + 1 => rndS (rnds ws s n) (K64.getD n 0) (ws.getD n 0)
def sumS (s t : S8) : S8 := ⟨(s.a + t.a) % 4294967296, (s.b + t.b) % 4294967296, (s.c + t.c) % 4294967296, (s.d + t.d) % 4294967296, (s.e + t.e) % 4294967296, (s.f + t.f) % 4294967296, (s.g + t.g) % 4294967296, (s.h + t.h) % 4294967296⟩
def blockS (s : S8) (bs : List Int) : S8 := sumS s (rnds (sched bs 64) s 64)

theorem index8 (a b c d e f g h : Int) {j : Nat} (hj : j < 8) (w : World) :
    (Instr.index 90 (.agg #[.int .u32 a, .int .u32 b, .int .u32 c, .int .u32 d, .int .u32 e, .int .u32 f, .int .u32 g, .int .u32 h]) (.int .i64 (j : Int))).run Try.prog w = .ok (.int .u32 ([a, b, c, d, e, f, g, h].getD j 0)) w := by
  have : j = 0 ∨ j = 1 ∨ j = 2 ∨ j = 3 ∨ j = 4 ∨ j = 5 ∨ j = 6 ∨ j = 7 := by omega
  rcases this with rfl | rfl | rfl | rfl | rfl | rfl | rfl | rfl <;> simp [Instr.index, asIntOf, run_underlying Try.underlying90, part, go_sem]
/-- Nothing that was there has turned but block q. -/
structure Bt (q : Nat) (w w' : World) : Prop where
  os : w'.os = w.os
  tape : w'.tape = w.tape
  output : w'.output = w.output
  size : w.heap.size ≤ w'.heap.size
  block : ∀ k, k < w.heap.size → k ≠ q → w'.heap[k]? = w.heap[k]?
theorem Bt.of_ext {q : Nat} {w w' : World} (h : Ext w w') : Bt q w w' := ⟨h.os, h.tape, h.output, h.size, fun k hk _ => h.block k hk⟩
theorem Bt.trans {q : Nat} {a b c : World} (h : Bt q a b) (k : Bt q b c) : Bt q a c :=
  ⟨k.os.trans h.os, k.tape.trans h.tape, k.output.trans h.output, Nat.le_trans h.size k.size, fun i hi hq => (k.block i (Nat.lt_of_lt_of_le hi h.size) hq).trans (h.block i hi hq)⟩
theorem Bt.setCell {q o : Nat} {a b : World} (h : Bt q a b) (v : Value) : Bt q a (b.setCell ⟨q, o, none⟩ v) :=
  ⟨h.os, h.tape, h.output, by simpa using h.size, fun i hi hq => (heap_setCell_other _ hq).trans (h.block i hi hq)⟩
theorem Bt.ext {q : Nat} {w a b : World} (x : Ext w a) (h : Bt q a b) (hq : w.heap.size ≤ q) : Ext w b :=
  ⟨h.os.trans x.os, h.tape.trans x.tape, h.output.trans x.output, Nat.le_trans x.size h.size, fun k hk => (h.block k (Nat.lt_of_lt_of_le hk x.size) (by omega)).trans (x.block k hk)⟩
def mixL (s t : S8) (j : Nat) : List Int := (sumS s t).l.take j ++ s.l.drop j
theorem lt8 {j : Nat} (h : j < 8) : j = 0 ∨ j = 1 ∨ j = 2 ∨ j = 3 ∨ j = 4 ∨ j = 5 ∨ j = 6 ∨ j = 7 := by omega
theorem mixL_get (s t : S8) {j : Nat} (h : j < 8) : (rowN (mixL s t j))[j]? = some (.int .u32 (s.l.getD j 0)) := by
  rcases lt8 h with rfl | rfl | rfl | rfl | rfl | rfl | rfl | rfl <;> rfl
theorem mixL_set (s t : S8) {j : Nat} (h : j < 8) : (rowN (mixL s t j)).setIfInBounds j (.int .u32 ((s.l.getD j 0 + t.l.getD j 0) % 4294967296)) = rowN (mixL s t (j + 1)) := by
  rcases lt8 h with rfl | rfl | rfl | rfl | rfl | rfl | rfl | rfl <;> rfl

set_option maxRecDepth 100000 in
set_option maxHeartbeats 4000000 in
theorem add_any (b off len cap : Nat) (bs : List Int) (s : S8) (q : Nat) (w : World) (h4 : 64 ≤ len) (h5 : 64 ≤ cap) (hb : b < w.heap.size) (hl : bs.length = 64) (h0 : ∀ k (h : k < bs.length), 0 ≤ bs[k] ∧ bs[k] < 256)
    (hc : ∀ k (h : k < bs.length), w.cell? ⟨b, off + k, none⟩ = some (.int .u8 bs[k])) (hq : w.heap[q]? = some (.cells (rowN s.l) 90)) :
    Calls Try.prog 51 #[.pointer (some ⟨q, 0, none⟩), .slice (some ⟨b, off, none⟩) len cap] w fun e w' => e = .returned (.tuple #[]) ∧ Bt q w w' ∧ w'.heap[q]? = some (.cells (rowN (blockS s bs).l) 90) := by
  have HS := Lib.hid (sched_any b off len cap bs w h4 h5 hb hl h0 hc)
  have HQ := Lib.hid hq
  clear hc h0 hq
  obtain ⟨R, hRe⟩ : ∃ R, R = rowW (sched bs 64) := ⟨_, rfl⟩
  have hsz : R.size = 64 := by rw [hRe]; exact rowW_size (by rw [sched_len]; omega)
  have ho : ∀ v ∈ R.toList, v.oneCell' = true := by rw [hRe]; exact rowW_one _
  rw [← hRe] at HS
  have HE := Lib.hid hRe
  clear hRe
  go_enter Try.func51, Try.ntmps51
  go_upto_region 1 with (first
    | (go_at_call 67; (with_reducible refine (HS.out).mono ?_); rintro e w1 ⟨rfl, hx1⟩)
    | (go_at_call 68; (with_reducible refine (rounds_any _).mono ?_); rintro e w2 ⟨rfl, hx2⟩)
    | (refine wpList_store_row (hgd := rfl) 109 (.tmp 4) (.tmp 20) rfl w2.heap.size (by rfl) R (by rfl) (rowW []) 109 (two_blocks _ _ _).1 (by rw [hsz]; rfl) (by rw [hsz]; kernel_rfl) ho ?_)
    | (refine wpList_store_row (hgd := rfl) 109 (.tmp 5) (.tmp 21) rfl (w2.heap.size + 1) (by rfl) (rowN K64) (by rfl) (rowW []) 109 ((setRow_other _ _ _ _ (by omega)).trans (two_blocks _ _ _).2) (by rfl) (by kernel_rfl) (rowN_one _) ?_))
  change Code.wp _ _ _ _ ((((w2.alloc (.cells (rowW []) 109)).alloc (.cells (rowW []) 109)).setRow w2.heap.size R).setRow (w2.heap.size + 1) (rowN K64))
  have hX : Ext w ((((w2.alloc (.cells (rowW []) 109)).alloc (.cells (rowW []) 109)).setRow w2.heap.size R).setRow (w2.heap.size + 1) (rowN K64)) := by
    have h12 := hx1.size; have h22 := hx2.size
    exact below_setRow (below_setRow (Ext.alloc (Ext.alloc (hx1.trans hx2) _) _) (by omega) _) (by omega) _
  have hW4 : ((((w2.alloc (.cells (rowW []) 109)).alloc (.cells (rowW []) 109)).setRow w2.heap.size R).setRow (w2.heap.size + 1) (rowN K64)).heap[w2.heap.size]? = some (.cells R 109) :=
    (setRow_other _ _ _ _ (by omega)).trans (setRow_heap _ _ _ _ _ _ (two_blocks _ _ _).1)
  have hW5 : ((((w2.alloc (.cells (rowW []) 109)).alloc (.cells (rowW []) 109)).setRow w2.heap.size R).setRow (w2.heap.size + 1) (rowN K64)).heap[w2.heap.size + 1]? = some (.cells (rowN K64) 109) :=
    setRow_heap _ _ _ _ _ _ ((setRow_other _ _ _ _ (by omega)).trans (two_blocks _ _ _).2)
  have hlt2 : w.heap.size ≤ w2.heap.size := Nat.le_trans hx1.size hx2.size
  obtain ⟨p, hp⟩ : ∃ p, p = w2.heap.size := ⟨_, rfl⟩
  rw [← hp] at hX hW4 hW5 hlt2 ⊢
  generalize ((((w2.alloc (.cells (rowW []) 109)).alloc (.cells (rowW []) 109)).setRow p R).setRow (p + 1) (rowN K64)) = W at *
  clear hp hx1 hx2
  have hql := Rg.lt_of_heap HQ.out
  have hWq : W.heap[q]? = some (.cells (rowN s.l) 90) := (hX.block _ hql).trans HQ.out
  have HW4 := Lib.hid hW4; have HW5 := Lib.hid hW5; have HWq := Lib.hid hWq; have HX := Lib.hid hX
  have s0 := cell_of_row W q 0 _ _ _ hWq; have s1 := cell_of_row W q 1 _ _ _ hWq; have s2 := cell_of_row W q 2 _ _ _ hWq; have s3 := cell_of_row W q 3 _ _ _ hWq
  have s4 := cell_of_row W q 4 _ _ _ hWq; have s5 := cell_of_row W q 5 _ _ _ hWq; have s6 := cell_of_row W q 6 _ _ _ hWq; have s7 := cell_of_row W q 7 _ _ _ hWq
  simp only [rowN, S8.l, List.map_cons, List.map_nil, List.getElem?_toArray, List.getElem?_cons_zero, List.getElem?_cons_succ] at s0 s1 s2 s3 s4 s5 s6 s7
  clear hW4 hW5 hX hWq
  go_quiet (fail)
  clear s0 s1 s2 s3 s4 s5 s6 s7
  go_upto_region 2 with (fail)
  have JW4 : Hid ((W.drewN nq).heap[p]? = some (.cells R 109)) := HW4
  have JW5 : Hid ((W.drewN nq).heap[p + 1]? = some (.cells (rowN K64) 109)) := HW5
  have JWq : Hid ((W.drewN nq).heap[q]? = some (.cells (rowN s.l) 90)) := HWq
  have JX : Hid (Ext w (W.drewN nq)) := Lib.hid (HX.out.drewN _)
  clear HW4 HW5 HWq HX
  generalize W.drewN nq = W2 at *
  have HS8 : Hid (rnds (sched bs 64) s 0 = s) := Lib.hid rfl
  go_wp2_with (fail)
  go_loopw [6, 7, 8, 9, 10, 11, 12, 13, 54] (fun v6 v7 v8 v9 v10 v11 v12 v13 k wr => ∃ (i : Nat) (t : S8), k = .int .i64 i ∧ i ≤ 64 ∧ Hid (t = rnds (sched bs 64) s i) ∧ v6 = .int .u32 t.a ∧ v7 = .int .u32 t.b ∧ v8 = .int .u32 t.c ∧ v9 = .int .u32 t.d ∧ v10 = .int .u32 t.e ∧ v11 = .int .u32 t.f ∧ v12 = .int .u32 t.g ∧ v13 = .int .u32 t.h ∧ Ext W2 wr) (fun _ _ _ _ _ _ _ _ k _ => 64 - (iof k).toNat)
  case atStart => exact ⟨0, s, rfl, by omega, Lib.hid rfl, rfl, rfl, rfl, rfl, rfl, rfl, rfl, rfl, Ext.refl _⟩
  case round =>
    obtain ⟨i, t, rfl, hi, HT, rfl, rfl, rfl, rfl, rfl, rfl, rfl, rfl, hx⟩ := hrel
    by_cases hi64 : i < 64
    · have hp0 := Rg.lt_of_heap JW4.out; have hp1 := Rg.lt_of_heap JW5.out
      have cw : wr.cell? ⟨p, i, none⟩ = some (.int .u32 ((sched bs 64).getD i 0)) := by
        rw [hx.cells.1 _ _ hp0, cell_of_row _ _ _ _ _ _ JW4.out, HE.out, rowW_get (by rw [sched_len]; exact hi64)]
      have ck : wr.cell? ⟨p + 1, i, none⟩ = some (.int .u32 (K64.getD i 0)) := by
        rw [hx.cells.1 _ _ hp1, cell_of_row _ _ _ _ _ _ JW5.out, rowN_get (by exact hi64)]
      have HN : Hid (rnds (sched bs 64) s (i + 1) = rndS t (K64.getD i 0) ((sched bs 64).getD i 0)) := Lib.hid (by rw [HT.out]; rfl)
      generalize K64.getD i 0 = kk at *
      generalize (sched bs 64).getD i 0 = ww at *
      obtain ⟨ta, tb, tc, td, te, tf, tg, th⟩ := t
      have M1 := Lib.hid (mixed_e te); have M2 := Lib.hid (mixed_a ta)
      unfold rndS rndT rndU chS majS and32 xor32 not32 at HN
      simp only at HN M1 M2
      generalize mix3 te 6 11 25 = m1 at *; generalize mix3 ta 2 13 22 = m2 at *
      go_upto_region 5 with (fail)
      go_quiet (first | (go_at_call 69; (with_reducible refine Calls.quiet_of_same (M1.out _))))
      generalize ((th + m1 + bits BinOp.xor IntKind.u32 (bits BinOp.and IntKind.u32 te tf) (bits BinOp.and IntKind.u32 (bits BinOp.xor IntKind.u32 (if IntKind.u32.signed = true then -1 else IntKind.u32.max) te) tg) + kk) % 4294967296 + ww) % 4294967296 = T at *
      go_upto_region 6 with (fail)
      go_upto_region 7 with (go_at_call 69; (with_reducible refine (M2.out _).mono ?_); rintro e w3 ⟨rfl, hw3⟩; have h9 := hw3.symm; clear hw3; subst h9)
      go_wp2_with (fail)
      exact ⟨⟨i + 1, _, by simp, by omega, Lib.hid HN.out.symm, rfl, rfl, rfl, rfl, rfl, rfl, rfl, rfl, hx.drewN _⟩, by simp [iof]; omega⟩
    · obtain rfl : i = 64 := by omega
      have JR : Hid (wr.heap[q]? = some (.cells (rowN s.l) 90)) := Lib.hid ((hx.block _ (Rg.lt_of_heap JWq.out)).trans JWq.out)
      have JB : Hid (Bt q w wr) := Lib.hid (Bt.of_ext (JX.out.trans hx))
      clear JW4 JW5 JWq JX hx
      go_wp2_with (fail)
      go_loopw [114] (fun k wv => ∃ j : Nat, k = .int .i64 j ∧ j ≤ 8 ∧ Hid (wv.heap[q]? = some (.cells (rowN (mixL s t j)) 90)) ∧ Hid (Bt q w wv)) (fun k _ => 8 - (iof k).toNat)
      case atStart => exact ⟨0, rfl, by omega, JR, JB⟩
      case round =>
        obtain ⟨j, rfl, hj, KR, KB⟩ := hrel
        by_cases hj8 : j < 8
        · have cj : wr.cell? ⟨q, j, none⟩ = some (.int .u32 (s.l.getD j 0)) := by rw [cell_of_row _ _ _ _ _ _ KR.out, mixL_get s t hj8]
          have fj : wr.frozen? ⟨q, j, none⟩ = false := (Rg.cells_of KR.out).2.1 _
          have ql := Rg.lt_of_heap KR.out
          have HK : Hid (∀ wy, Ext wr wy → (wy.setCell ⟨q, j, none⟩ (.int .u32 ((s.l.getD j 0 + t.l.getD j 0) % 4294967296))).heap[q]? = some (.cells (rowN (mixL s t (j + 1))) 90)) := Lib.hid (fun wy hy => by
            rw [← mixL_set s t hj8]
            exact heap_setCell_row _ ((hy.block _ (Rg.lt_of_heap KR.out)).trans KR.out))
          clear hj KR
          have IX := fun w => index8 t.a t.b t.c t.d t.e t.f t.g t.h hj8 w
          change ∀ w, _ = Result.ok (Value.int .u32 (t.l.getD j 0)) w at IX
          generalize s.l.getD j 0 = sj at *
          generalize t.l.getD j 0 = tj at *
          go_upto_region 12 with (fail)
          refine Rr.wp_region [(0, .y), (1, .y), (2, .y), (3, .y), (4, .y), (5, .y), (6, .y), (7, .y), (8, .y)] (fun _ => (.cells #[] 29, Rg.ptr)) (by kernel_rfl) (by kernel_rfl) ?_
          (refine Rr.wr_y (by simp only [List.getElem?_toArray, List.getElem?_cons_succ, List.getElem?_cons_zero]; rfl) (by rfl) ?_
           apply Exists.intro
           refine ⟨fun wz hw _ => ?_, ?_⟩
           · have hcz := hw.cells.1
             go_simp
             (with_reducible exact Rg.up_value)
           simp only [Act.put, List.setIfInBounds_toArray, List.set_cons_zero, List.set_cons_succ])
          (refine Rr.wr_y (by simp only [List.getElem?_toArray, List.getElem?_cons_succ, List.getElem?_cons_zero]; rfl) (by rfl) ?_
           apply Exists.intro
           refine ⟨fun wz hw _ => ?_, ?_⟩
           · have hcz := hw.cells.1
             go_simp
             (with_reducible exact Rg.up_value)
           simp only [Act.put, List.setIfInBounds_toArray, List.set_cons_zero, List.set_cons_succ])
          (refine Rr.wr_y (by simp only [List.getElem?_toArray, List.getElem?_cons_succ, List.getElem?_cons_zero]; rfl) (by rfl) ?_
           apply Exists.intro
           refine ⟨fun wz hw _ => ?_, ?_⟩
           · have hcz := hw.cells.1
             go_simp
             (with_reducible exact Rg.up_value)
           simp only [Act.put, List.setIfInBounds_toArray, List.set_cons_zero, List.set_cons_succ])
          (refine Rr.wr_y (by simp only [List.getElem?_toArray, List.getElem?_cons_succ, List.getElem?_cons_zero]; rfl) (by rfl) ?_
           apply Exists.intro
           refine ⟨fun wz hw _ => ?_, ?_⟩
           · have hcz := hw.cells.1
             go_simp
             (with_reducible exact Rg.up_value)
           simp only [Act.put, List.setIfInBounds_toArray, List.set_cons_zero, List.set_cons_succ])
          (refine Rr.wr_y (by simp only [List.getElem?_toArray, List.getElem?_cons_succ, List.getElem?_cons_zero]; rfl) (by rfl) ?_
           apply Exists.intro
           refine ⟨fun wz hw _ => ?_, ?_⟩
           · have hcz := hw.cells.1
             go_simp
             (with_reducible exact Rg.up_value)
           simp only [Act.put, List.setIfInBounds_toArray, List.set_cons_zero, List.set_cons_succ])
          (refine Rr.wr_y (by simp only [List.getElem?_toArray, List.getElem?_cons_succ, List.getElem?_cons_zero]; rfl) (by rfl) ?_
           apply Exists.intro
           refine ⟨fun wz hw _ => ?_, ?_⟩
           · have hcz := hw.cells.1
             go_simp
             (with_reducible exact Rg.up_value)
           simp only [Act.put, List.setIfInBounds_toArray, List.set_cons_zero, List.set_cons_succ])
          (refine Rr.wr_y (by simp only [List.getElem?_toArray, List.getElem?_cons_succ, List.getElem?_cons_zero]; rfl) (by rfl) ?_
           apply Exists.intro
           refine ⟨fun wz hw _ => ?_, ?_⟩
           · have hcz := hw.cells.1
             go_simp
             (with_reducible exact Rg.up_value)
           simp only [Act.put, List.setIfInBounds_toArray, List.set_cons_zero, List.set_cons_succ])
          (refine Rr.wr_y (by simp only [List.getElem?_toArray, List.getElem?_cons_succ, List.getElem?_cons_zero]; rfl) (by rfl) ?_
           apply Exists.intro
           refine ⟨fun wz hw _ => ?_, ?_⟩
           · have hcz := hw.cells.1
             go_simp
             (with_reducible exact Rg.up_value)
           simp only [Act.put, List.setIfInBounds_toArray, List.set_cons_zero, List.set_cons_succ])
          (refine Rr.wr_y (by simp only [List.getElem?_toArray, List.getElem?_cons_succ, List.getElem?_cons_zero]; rfl) (by rfl) ?_
           apply Exists.intro
           refine ⟨fun wz hw _ => ?_, ?_⟩
           · have hcz := hw.cells.1
             go_simp
             (with_reducible exact Rg.up_value)
           simp only [Act.put, List.setIfInBounds_toArray, List.set_cons_zero, List.set_cons_succ])
          refine Rr.wr_nil ?_
          intro wy hy hh
          simp only [List.length_cons, List.length_nil, List.drop_succ_cons, List.drop_zero, Nat.reduceAdd]
          have dr' := (hy.cells.1 _ j ql).trans cj
          have df' := (hy.cells.2 _ j ql).trans fj
          go_wp2_with (fail)
          exact ⟨⟨j + 1, by simp, by omega, Lib.hid (HK.out wy hy), Lib.hid ((KB.out.trans (Bt.of_ext hy)).setCell _)⟩, by simp [iof]; omega⟩
        · obtain rfl : j = 8 := by omega
          have HB : Hid (mixL s t 8 = (blockS s bs).l) := Lib.hid (by unfold blockS; rw [← HT.out]; rfl)
          go_wp2_with (fail)
          go_end0
          exact ⟨rfl, KB.out, by rw [← HB.out]; exact KR.out⟩
end Go.Proofs.Ytbeoihjfjkbfhaa

namespace Go.Proofs.Ytbeoihjfjkbfhaa
set_option linter.unusedVariables false
set_option linter.unusedSimpArgs false
open Go.RowKit Go.Shelf
attribute [local go_sem] Oper.semAt_some

/-- Nothing below n has turned but block q. -/
structure Bel (q n : Nat) (w w' : World) : Prop where
  os : w'.os = w.os
  tape : w'.tape = w.tape
  output : w'.output = w.output
  size : w.heap.size ≤ w'.heap.size
  block : ∀ k, k < n → k ≠ q → w'.heap[k]? = w.heap[k]?
theorem Bel.refl (q n : Nat) (w : World) : Bel q n w w := ⟨rfl, rfl, rfl, Nat.le_refl _, fun _ _ _ => rfl⟩
theorem Bel.trans {q n : Nat} {a b c : World} (h : Bel q n a b) (k : Bel q n b c) : Bel q n a c :=
  ⟨k.os.trans h.os, k.tape.trans h.tape, k.output.trans h.output, Nat.le_trans h.size k.size, fun i hi hq => (k.block i hi hq).trans (h.block i hi hq)⟩
theorem Bel.cell {q n : Nat} {w w' : World} (h : Bel q n w w') {p : Addr} (h1 : p.block < n) (h2 : p.block ≠ q) : w'.cell? p = w.cell? p := by
  unfold World.cell?
  rw [h.block _ h1 h2]
theorem Bel.of_bt {q n : Nat} {w w' : World} (h : Bt q w w') (hn : n ≤ w.heap.size) : Bel q n w w' := ⟨h.os, h.tape, h.output, h.size, fun k hk hq => h.block k (Nat.lt_of_lt_of_le hk hn) hq⟩
theorem Bel.put {q n : Nat} (W : World) (l : Nat) (o : Obj) (h : n ≤ l) : Bel q n W (W.putObj l o) := ⟨rfl, rfl, rfl, by simp [World.putObj], fun k hk _ => World.putObj_heap_other (by omega)⟩
theorem Bel.grown {q n : Nat} {a w w' : World} {row : Option Nat} (h : Bel q n a w) (hg : w.grownBy w' row) (hn : n ≤ w.heap.size) (hr : ∀ r, row = some r → n ≤ r) : Bel q n a w' :=
  ⟨hg.os.trans h.os, hg.tape.trans h.tape, hg.output.trans h.output, Nat.le_trans h.size hg.size, fun k hk hq => (hg.block k (Nat.lt_of_lt_of_le hk hn) (fun e => by have := hr k e.symm; omega)).trans (h.block k hk hq)⟩

set_option maxRecDepth 100000 in
set_option maxHeartbeats 2000000 in
theorem chunk1_in (F : Fence) (n : Nat) (hf : F.fn 66) (hro : F.round = none) (hn : 1 ≤ n) (l Bs Bn q n₀ b off c cap : Nat) (hsq : Bs ≠ q) (hnq : Bn ≠ q) (hreach : c ≤ 1000000) (hcap : 64 * c ≤ cap) (J Jx : List Nat → World → Prop)
    (hJd : ∀ pre W q, J pre W → J pre (W.drewN q))
    (hY : ∀ pre x W, J pre W → pre.length < c → YieldAt F (n - 1) Try.prog l #[.slice (some ⟨b, off + 64 * (x % c), none⟩) 64 64] W fun e W' =>
      (e = .returned (.bool true) ∧ J (pre ++ [x]) W' ∧ Bel q n₀ W W') ∨ (e = .returned (.bool false) ∧ Jx (pre ++ [x]) W'))
    (W : World) (hs0 : Bs < n₀) (hn0 : Bn < n₀) (hBs : W.cell? ⟨Bs, 0, none⟩ = some (.slice (some ⟨b, off, none⟩) (64 * c) cap)) (hBn : W.cell? ⟨Bn, 0, none⟩ = some (.int .i64 64)) (h0 : J [] W) :
    CallsIn F n Try.prog 66 #[.func (.yield l) #[] #[], .pointer (some ⟨Bs, 0, none⟩), .pointer (some ⟨Bn, 0, none⟩)] W fun e W' => (∃ v, e = .returned v) ∧
      ((∃ ys, ys = List.range c ∧ J ys W') ∨ (∃ pre, (∃ k, k ≤ c ∧ pre = List.range k) ∧ Jx pre W')) := by
  refine callsIn_of_wp Try.func66 rfl hf ?_ hro
  simp only [Try.ntmps66, List.size_toArray, List.length_cons, List.length_nil, Nat.reduceAdd, Nat.reduceSub, Array.replicate_succ, Array.replicate_zero, List.push_toArray, List.append_toArray, List.nil_append, List.cons_append]
  gi_wp2
  gi_loopw [4] (fun i wr => ∃ k : Nat, k ≤ c ∧ i = .int .i64 (64 * (k : Int)) ∧ J (List.range k) wr ∧ Bel q n₀ W wr)
    (fun i _ => 64 * c - (intOf i).toNat)
  case atStart => exact ⟨0, Nat.zero_le _, rfl, h0, Bel.refl _ _ _⟩
  case round =>
    obtain ⟨k, hk, rfl, hJs, hnx⟩ := hrel
    have cs := (hnx.cell (p := ⟨Bs, 0, none⟩) hs0 hsq).trans hBs
    have cn := (hnx.cell (p := ⟨Bn, 0, none⟩) hn0 hnq).trans hBn
    by_cases hlt : k < c
    · gi_wp2
      refine wpIn_region_quiet_lit hro (by kernel_rfl) (by kernel_rfl) ?_
      repeat (gi_big_quiet_step (fail))
      refine wpQuietIn_nil ?_
      intro _ hw'
      obtain ⟨nq, hw''⟩ := hw'
      subst hw''
      have hYk := hY _ k (wr.drewN nq) (hJd _ _ _ hJs) (by simpa using hlt)
      rw [Nat.mod_eq_of_lt hlt] at hYk
      obtain ⟨fn, tmps, assign, body, hy, hR⟩ := hYk
      gi_wp2
      refine hR.mono ?_
      rintro e W3 (⟨rfl, hJ3, hk3⟩ | ⟨rfl, hJx3⟩)
      · have hk4 : Bel q n₀ W W3 := (show Bel q n₀ W (wr.drewN nq) from ⟨hnx.os, hnx.tape, hnx.output, hnx.size, hnx.block⟩).trans hk3
        have cn3 := (hk4.cell (p := ⟨Bn, 0, none⟩) hn0 hnq).trans hBn
        gi_wp2
        go_roundw
        case rel => exact ⟨k + 1, by omega, by simp; omega, by rw [List.range_succ]; exact hJ3, hk4⟩
        case measure => simp [intOf]; omega
      · gi_wp2
        refine bodyPost_ret (results_none rfl _ _ _) rfl ?_
        exact ⟨⟨_, rfl⟩, .inr ⟨_, ⟨k + 1, by omega, (List.range_succ).symm⟩, hJx3⟩⟩
    · obtain rfl : k = c := by omega
      gi_wp2
      go_end0
      exact ⟨⟨_, rfl⟩, .inl ⟨_, rfl, hJs⟩⟩
/-- Chunks of 64 come in order. -/
theorem chunk_stops (F : Fence) (n : Nat) (hf : F.fn 66) (hro : F.round = none) (hn : 1 ≤ n) (Bs Bn q n₀ b off c cap : Nat) (hsq : Bs ≠ q) (hnq : Bn ≠ q) (hreach : c ≤ 1000000) (hcap : 64 * c ≤ cap) (w : World) (hs0 : Bs < n₀) (hn0 : Bn < n₀) (hw : n₀ ≤ w.heap.size)
    (hBs : w.cell? ⟨Bs, 0, none⟩ = some (.slice (some ⟨b, off, none⟩) (64 * c) cap)) (hBn : w.cell? ⟨Bn, 0, none⟩ = some (.int .i64 64)) :
    SeqStopsK F n Try.prog 66 #[.pointer (some ⟨Bs, 0, none⟩), .pointer (some ⟨Bn, 0, none⟩)] (fun x : Nat => #[.slice (some ⟨b, off + 64 * (x % c), none⟩) 64 64]) (Bel q n₀) (fun ys => ys = List.range c) (fun _ => True) c w := fun l J Jx W hW hJ _ hY h0 => by
  have c1 := (hW.cell (p := ⟨Bs, 0, none⟩) (by show Bs < _; omega)).trans hBs
  have c2 := (hW.cell (p := ⟨Bn, 0, none⟩) (by show Bn < _; omega)).trans hBn
  refine (chunk1_in F n hf hro hn l Bs Bn q n₀ b off c cap hsq hnq hreach hcap J Jx (fun pre W q h => hJ pre W _ none h ⟨rfl, rfl, rfl, Nat.le_refl _, fun _ _ _ => rfl⟩ (fun r e => by cases e)) hY W hs0 hn0 c1 c2 h0).mono ?_
  rintro e W' ⟨he, ⟨ys, rfl, hj⟩ | ⟨pre, ⟨k, hk, rfl⟩, hj⟩⟩
  · exact ⟨he, .inl ⟨_, rfl, hj⟩⟩
  · exact ⟨he, .inr ⟨_, trivial, hj⟩⟩
/-- slices.Chunk: its arguments are boxed. -/
theorem chunk_any (a : Option Addr) (len cap : Nat) (w : World) : Calls Try.prog 50 #[.slice a len cap, .int .i64 64] w fun e w' =>
    e = .returned (.func (.func 66) #[] #[.pointer (some ⟨w.heap.size, 0, none⟩), .pointer (some ⟨w.heap.size + 1, 0, none⟩)]) ∧ w' = (w.alloc (.cells #[.slice a len cap] 51)).alloc (.cells #[.int .i64 64] 3) := by
  go_enter Try.func50, Try.ntmps50
  go_wp2
  go_ret
  exact ⟨rfl, rfl⟩
end Go.Proofs.Ytbeoihjfjkbfhaa

namespace Go.Proofs.Ytbeoihjfjkbfhaa
set_option linter.unusedVariables false
set_option linter.unusedSimpArgs false
open Go.RowKit

section
variable (P : Program)
theorem run_storeCells_fr (g o : Nat) (t : TypeId) (fr : Nat × Nat) : ∀ (vs : List Value) (i : Nat) (cur : Array Value) (w : World), w.heap[g]? = some (.cells cur t fr) → (fr = (0, 0) ∨ o + i + vs.length ≤ fr.1) → o + i + vs.length ≤ cur.size → (∀ v ∈ vs, v.oneCell' = true) →
    (storeCells ⟨g, o, none⟩ vs i).run P w = .ok () (w.setRow g (cur.toList.take (o + i) ++ vs ++ cur.toList.drop (o + i + vs.length)).toArray)
  | [], i, cur, w, hg, _, _, _ => by
    simp only [storeCells, List.append_nil, List.length_nil, Nat.add_zero, List.take_append_drop, Array.toArray_toList]
    rw [setRow_self w g cur t fr hg]
    rfl
  | v :: rest, i, cur, w, hg, hf, hl, h1 => by
    have hi : o + i < cur.size := by simp at hl; omega
    have hadd : (⟨g, o, none⟩ : Addr).add i = ⟨g, o + i, none⟩ := by unfold Addr.add; split <;> simp_all
    have hcell : w.cell? ⟨g, o + i, none⟩ = some cur[o + i] := by simp [World.cell?, hg, hi]
    have hfro : w.frozen? ⟨g, o + i, none⟩ = false := by
      obtain ⟨lo, hi'⟩ := fr
      rcases hf with h | h
      · cases h
        simp [World.frozen?, hg]
      · simp only [List.length_cons] at h
        have : ¬ lo ≤ o + i := by omega
        simp [World.frozen?, hg, this]
    have hst : (store ((⟨g, o, none⟩ : Addr).add i) v).run P w = .ok () (w.setRow g (cur.setIfInBounds (o + i) v)) := by
      rw [hadd, run_store P w _ v _ (h1 v (by simp)), hcell]
      simp [hfro, setCell_eq_setRow w g (o + i) cur t fr v hg]
    have ih := run_storeCells_fr g o t fr rest (i + 1) (cur.setIfInBounds (o + i) v) (w.setRow g (cur.setIfInBounds (o + i) v)) (setRow_heap w g cur _ t _ hg) (hf.imp id (fun h => by simp at h ⊢; omega)) (by simp at hl ⊢; omega) (fun x hx => h1 x (by simp [hx]))
    simp only [storeCells, Sem.run_bind, hst, Result.andThen_ok, ih, setRow_setRow]
    congr 3
    have e := list_seg_step cur.toList (o + i) v rest (by simp at hl ⊢; omega)
    simpa [Array.toList_setIfInBounds, Nat.add_assoc] using e
end

/-- A row of bytes that the call has made: it lies from B on, holds l, and has room of its own that may be written. -/
def BY (B : Nat) (w : World) (v : Value) (l : List Int) : Prop :=
  ∃ (g cap : Nat) (cur : Array Value) (fr : Nat × Nat), v = .slice (some ⟨g, 0, none⟩) l.length cap ∧ B ≤ g ∧ w.heap[g]? = some (.cells cur 5 fr) ∧ (fr = (0, 0) ∨ cap ≤ fr.1) ∧ cur.size = cap ∧ l.length ≤ cap ∧ cur.toList.take l.length = l.map (Value.int .u8)
theorem info5 : (Try.prog.info? 5).map (fun i => (i.zero, i.size, i.bytes)) = some (some (Value.int .u8 0), 1, 1) := by kernel_rfl
theorem run_append_by (B : Nat) (v : Value) (l : List Int) (w : World) (h : BY B w v l) (hB : B ≤ w.heap.size) (a : Addr) (m c : Nat) (ns : List Int) (hm : ns.length = m) (hn : ∀ j x, ns[j]? = some x → w.cell? (a.add j) = some (.int .u8 x)) (hs : l.length + m ≤ 1000000) (ty : TypeId) :
    ∃ v' w', (Builtin.append_ #[51, 51] ty #[v, .slice (some a) m c]).run Try.prog w = .ok v' w' ∧ BY B w' v' (l ++ ns) ∧ Below B w w' := by
  obtain ⟨i0, hi, hz0, hz1, hz2⟩ := info_parts info5
  obtain ⟨g, cap, cur, fr, rfl, hBg, hg, hfr, hcs, hlc, htk⟩ := h
  have hnews : ∀ j u, (ns.map (Value.int .u8))[j]? = some u → w.cell? (a.add j) = some u := by
    intro j u hu
    rw [List.getElem?_map] at hu
    obtain ⟨x, hx, rfl⟩ := Option.map_eq_some_iff.1 hu
    exact hn j x hx
  have h1 : ∀ u ∈ ns.map (Value.int .u8), u.oneCell' = true := by
    intro u hu
    obtain ⟨x, -, rfl⟩ := List.mem_map.1 hu
    rfl
  have hl : (ns.map (Value.int .u8)).length = m * i0.size := by rw [hz1]; simp [hm]
  by_cases hroom : l.length + m ≤ cap
  · have hf := run_firstCells_some (P := Try.prog) w i0.size m a m c (ns.map (Value.int .u8)) hl hnews
    have hst := run_storeCells_fr Try.prog g (l.length * i0.size) 5 fr (ns.map (Value.int .u8)) 0 cur w hg (hfr.imp id (fun h => by rw [hz1]; simp [hm]; omega)) (by rw [hz1]; simp [hm]; omega) h1
    simp only [Nat.add_zero] at hst
    refine ⟨.slice (some ⟨g, 0, none⟩) (l.length + m) cap, w.setRow g (cur.toList.take (l.length * i0.size) ++ ns.map (Value.int .u8) ++ cur.toList.drop (l.length * i0.size + (ns.map (Value.int .u8)).length)).toArray, ?_, ⟨g, cap, _, fr, by simp [hm], hBg, setRow_heap _ _ _ _ _ _ hg, hfr, ?_, by simp; omega, ?_⟩, below_setRow (Below.refl _ _) hBg _⟩
    · simp [Builtin.append_, run_underlying Try.underlying51, sizeOf, typeInfo, hi, Builtin.lenOf, hroom, hf, Addr.add_lit, hst]
    · rw [hz1]
      simp [hm]
      omega
    · rw [hz1, Nat.mul_one, htk]
      simp only [List.map_append]
      exact List.take_left' (by simp)
  · have holds : ∀ j u, (l.map (Value.int .u8))[j]? = some u → w.cell? ((⟨g, 0, none⟩ : Addr).add j) = some u := by
      intro j u hu
      have hj : j < l.length := by have := (List.getElem?_eq_some_iff.1 hu).1; simpa using this
      have hadd : (⟨g, 0, none⟩ : Addr).add j = ⟨g, j, none⟩ := by unfold Addr.add; split <;> simp_all
      rw [hadd, cell_of_row _ _ _ _ _ _ hg, ← hu, ← htk, List.getElem?_take]
      simp [hj]
    have hr := run_append_grow (P := Try.prog) w 51 ty 5 i0 (.int .u8 0) Try.underlying51 hi hz0 ⟨g, 0, none⟩ l.length cap (l.map (Value.int .u8)) (by rw [hz1]; simp) holds a m c (ns.map (Value.int .u8)) hl hnews (by omega) (by omega) (growslice_fits (by omega) (by rw [hz2]; omega))
    have hge := grownCap_ge w (l.length + m) cap 5
    refine ⟨_, _, hr, ⟨w.heap.size, grownCap w (l.length + m) cap 5, _, (0, 0), by simp [hm], hB, alloc_at w.drew _, .inl rfl, ?_, by simp; omega, ?_⟩, (Below.refl _ _).drew.alloc hB _⟩
    · simp [size_zeroCells, hm]
      rw [show (Value.int IntKind.u8 0).cells.size = 1 from rfl]
      omega
    · simp only [Array.toList_append, List.map_append]
      exact List.take_left' (by simp)
theorem zeroCells_list (n : Nat) : (Builtin.zeroCells (Value.int .u8 0).cells n).toList = (List.replicate n (0 : Int)).map (Value.int .u8) := by
  apply List.ext_getElem
  · simp [Builtin.zeroCells]
    exact Nat.mul_one n
  · intro i h1 h2
    simp [Builtin.zeroCells, Value.cells]
    rw [Nat.mod_one]
    rfl
/-- 'append(v, make([]byte, n)...)'. -/
theorem run_append_zeros (B : Nat) (v : Value) (l : List Int) (w : World) (h : BY B w v l) (hB : B ≤ w.heap.size) (n : Nat) (hs : l.length + n ≤ 1000000) (ty : TypeId) :
    ∃ v' w', (Builtin.append_ #[51, 3] ty #[v, .int .i64 n]).run Try.prog w = .ok v' w' ∧ BY B w' v' (l ++ List.replicate n 0) ∧ Below B w w' := by
  obtain ⟨i0, hi, hz0, hz1, hz2⟩ := info_parts info5
  obtain ⟨g, cap, cur, fr, rfl, hBg, hg, hfr, hcs, hlc, htk⟩ := h
  have hwr : IntKind.i64.wrap (n : Int) = n := by rw [IntKind.wrap_i64]; omega
  have h48 : ¬ ((281474976710656 : Int) < n) := by omega
  have hneg : ¬ ((n : Int) < 0) := by omega
  have hzl := zeroCells_list n
  by_cases hroom : l.length + n ≤ cap
  · have hst := run_storeCells_fr Try.prog g (l.length * i0.size) 5 fr ((List.replicate n (0 : Int)).map (Value.int .u8)) 0 cur w hg (hfr.imp id (fun h => by rw [hz1]; simp; omega)) (by rw [hz1]; simp; omega) (by
      intro u hu
      obtain ⟨x, -, rfl⟩ := List.mem_map.1 hu
      rfl)
    simp only [Nat.add_zero] at hst
    refine ⟨.slice (some ⟨g, 0, none⟩) (l.length + n) cap, w.setRow g (cur.toList.take (l.length * i0.size) ++ (List.replicate n (0 : Int)).map (Value.int .u8) ++ cur.toList.drop (l.length * i0.size + ((List.replicate n (0 : Int)).map (Value.int .u8)).length)).toArray, ?_, ⟨g, cap, _, fr, by simp, hBg, setRow_heap _ _ _ _ _ _ hg, hfr, ?_, by simp; omega, ?_⟩, below_setRow (Below.refl _ _) hBg _⟩
    · by_cases hn : n = 0
      · subst hn
        simp only [List.replicate_zero, List.map_nil] at hst
        simp [Builtin.append_, run_underlying Try.underlying51, run_underlying Try.underlying3, sizeOf, typeInfo, hi, hz2, asInt, asIntOf, hlc, show IntKind.i64.wrap 0 = 0 from by decide, Addr.add_lit, hst]
      · simp [Builtin.append_, run_underlying Try.underlying51, run_underlying Try.underlying3, sizeOf, typeInfo, hi, hz2, hz1, asInt, asIntOf, hwr, h48, hneg, hroom, Addr.add_lit, zeroValue, hz0, hzl, hst, hn]
        simp [hz1] at hst
        simp [hst]
    · rw [hz1]
      simp
      omega
    · rw [hz1, Nat.mul_one, htk]
      simp only [List.map_append]
      exact List.take_left' (by simp)
  · have hnr : ¬ (l.length + n ≤ cap) := hroom
    have hn0 : n ≠ 0 := by omega
    have holds : ∀ j u, (l.map (Value.int .u8))[j]? = some u → w.drew.cell? ((⟨g, 0, none⟩ : Addr).add j) = some u := by
      intro j u hu
      have hj : j < l.length := by have := (List.getElem?_eq_some_iff.1 hu).1; simpa using this
      have hadd : (⟨g, 0, none⟩ : Addr).add j = ⟨g, j, none⟩ := by unfold Addr.add; split <;> simp_all
      rw [hadd]
      refine (cell_of_row w.drew g j cur 5 fr hg).trans ?_
      rw [← hu, ← htk, List.getElem?_take]
      simp [hj]
    have hfo := run_firstCells_some (P := Try.prog) w.drew i0.size l.length ⟨g, 0, none⟩ l.length cap (l.map (Value.int .u8)) (by rw [hz1]; simp) holds
    have hfit := growslice_fits (need := l.length + n) (old := cap) (bytes := 1) (by omega) (by omega)
    have hge := grownCap_ge w (l.length + n) cap 5
    have h63 : ¬ ((9223372036854775807 : Int) < (l.length : Int) + (n : Int)) := by omega
    have h48' : ¬ (281474976710656 < Builtin.nextslicecap (l.length + n) cap) := by omega
    refine ⟨.slice (some ⟨w.heap.size, 0, none⟩) (l.length + n) (grownCap w (l.length + n) cap 5), w.drew.alloc (.cells ((l.map (Value.int .u8)).toArray ++ Builtin.zeroCells (Value.int .u8 0).cells n ++ Builtin.zeroCells (Value.int .u8 0).cells (grownCap w (l.length + n) cap 5 - (l.length + n))) 5), ?_, ⟨w.heap.size, grownCap w (l.length + n) cap 5, _, (0, 0), by simp, hB, alloc_at w.drew _, .inl rfl, ?_, by simp; omega, ?_⟩, (Below.refl _ _).drew.alloc hB _⟩
    · simp [Builtin.append_, run_underlying Try.underlying51, run_underlying Try.underlying3, sizeOf, typeInfo, hi, hz2, hz1, asInt, asIntOf, hwr, h48, hneg, hnr, h63, h48', zeroValue, hz0, hn0, Question.forced, newRow, grownCap]
      simp [hz1] at hfo
      simp [hfo]
    · simp [size_zeroCells]
      rw [show (Value.int IntKind.u8 0).cells.size = 1 from rfl]
      omega
    · simp only [Array.toList_append, List.map_append, hzl]
      exact List.take_left' (by simp)
def bytesI (s : ByteArray) : List Int := s.data.toList.map fun b => (b.toNat : Int)
theorem bytesI_len (s : ByteArray) : (bytesI s).length = s.size := by
  unfold bytesI
  rw [List.length_map, Array.length_toList]
  rfl
theorem run_conv_by (s : ByteArray) (w : World) : ∃ v w', (convert 9 51 (.string s)).run Try.prog w = .ok v w' ∧ BY w.heap.size w' v (bytesI s) ∧ Ext w w' := by
  have hr := run_bytes_of_string (P := Try.prog) w 9 51 5 s Try.underlying9 Try.underlying51 Try.underlying5
  have hge := grownCap_ge w s.size 0 5
  refine ⟨_, _, hr, ⟨w.heap.size, grownCap w s.size 0 5, _, _, by rw [bytesI_len], Nat.le_refl _, alloc_at w.drew _, .inr ?_, ?_, by rw [bytesI_len]; exact hge, ?_⟩, (Ext.refl w).drew.alloc _⟩
  · have : s.data.size = s.size := rfl
    simp [bytesRow]
    omega
  · have : s.data.size = s.size := rfl
    simp [bytesRow]
    omega
  · rw [bytesI_len]
    unfold bytesRow bytesI
    rw [Array.toList_append, List.take_left' (by simp)]
    simp
end Go.Proofs.Ytbeoihjfjkbfhaa

namespace Go.Proofs.Ytbeoihjfjkbfhaa
set_option linter.unusedVariables false
set_option linter.unusedSimpArgs false
open Go.RowKit

def padV (l : List Int) : List Int :=
  l ++ [128] ++ List.replicate ((120 - (l.length + 1) % 64) % 64) 0 ++ byteS (((8 * l.length : Nat) : Int) / 4294967296) ++ byteS (((8 * l.length : Nat) : Int) % 4294967296)
theorem byteS_len (x : Int) : (byteS x).length = 4 := rfl
theorem byteS_in (x : Int) : ∀ y ∈ byteS x, 0 ≤ y ∧ y < 256 := by
  intro y hy
  simp only [byteS, List.mem_cons, List.not_mem_nil, or_false] at hy
  rcases hy with rfl | rfl | rfl | rfl <;> omega
theorem padV_len (l : List Int) : (padV l).length = l.length + 1 + (120 - (l.length + 1) % 64) % 64 + 8 := by
  unfold padV
  simp [byteS_len]
  omega
theorem padV_mod (l : List Int) : (padV l).length % 64 = 0 := by
  rw [padV_len]
  omega
theorem padV_in {l : List Int} (h : ∀ x ∈ l, 0 ≤ x ∧ x < 256) : ∀ x ∈ padV l, 0 ≤ x ∧ x < 256 := by
  intro x hx
  unfold padV at hx
  simp only [List.mem_append, List.mem_replicate, List.mem_cons, List.not_mem_nil, or_false] at hx
  rcases hx with (((hx | rfl) | ⟨-, rfl⟩) | hx) | hx
  · exact h x hx
  · omega
  · omega
  · exact byteS_in _ x hx
  · exact byteS_in _ x hx
def S0 : S8 := ⟨1779033703, 3144134277, 1013904242, 2773480762, 1359893119, 2600822924, 528734635, 1541459225⟩
theorem S0_l : S0.l = H8 := rfl
/-- The state behind k blocks. -/
def absorb (m : List Int) : Nat → S8
  | 0 => S0
  | k + 1 => blockS (absorb m k) ((m.drop (64 * k)).take 64)
def outV (s : S8) : List Int := s.l.flatMap byteS
/-- The hash. -/
def sumV (l : List Int) : List Int := outV (absorb (padV l) ((padV l).length / 64))
theorem sumV_len (l : List Int) : (sumV l).length = 32 := rfl
theorem bytesI_in (s : ByteArray) : ∀ x ∈ bytesI s, 0 ≤ x ∧ x < 256 := by
  intro x hx
  obtain ⟨b, -, rfl⟩ := List.mem_map.1 hx
  have := b.toNat_lt
  omega
end Go.Proofs.Ytbeoihjfjkbfhaa

namespace Go.Proofs.Ytbeoihjfjkbfhaa
set_option linter.unusedVariables false
set_option linter.unusedSimpArgs false
open Go.RowKit Go.Shelf
theorem wp_append_run2 {P : Program} (w : World) {o : Oper} {a : Act} {K : Act → World → Prop} {Q : Exit → Act → World → Prop} (s x : Operand) (t u : TypeId)
    (ho : o.op = .call { callee := .builtin .append, args := #[s, x], argTypes := #[t, u] }) (v y : Value) (hs : a.eval s = v) (hx : a.eval x = y) {v' : Value} {w' : World}
    (hr : (Builtin.append_ #[t, u] o.type #[v, y]).run P w = .ok v' w') (h : K (a.put o.dst v') w') : o.wp P a w K Q := by
  unfold Oper.wp execOp
  simp only [ho, resolve, invoke, builtin, Sem.run_bind, Sem.run_pure, Result.andThen_ok, List.map_toArray, List.map_cons, List.map_nil, hs, hx, hr]
  exact h
theorem wpList_append_run2 {P : Program} (w : World) {ops : Array Oper} {rest : List Oper} {o : Oper} {a : Act} {Q : Exit → Act → World → Prop} (hgd : o.guard = none) (s x : Operand) (t u : TypeId)
    (ho : o.op = .call { callee := .builtin .append, args := #[s, x], argTypes := #[t, u] }) (v y : Value) (hs : a.eval s = v) (hx : a.eval x = y) {v' : Value} {w' : World}
    (hr : (Builtin.append_ #[t, u] o.type #[v, y]).run P w = .ok v' w') (h : wpList P ops Q rest (a.put o.dst v') w') : wpList P ops Q (o :: rest) a w :=
  wpList_plain hgd fun _ hK => wp_append_run2 w s x t u ho v y hs hx hr (hK _ _ h)
theorem BY.ext {B : Nat} {w w' : World} {v : Value} {l : List Int} (h : BY B w v l) (x : Ext w w') : BY B w' v l := by
  obtain ⟨g, cap, cur, fr, e, h1, h2, h3⟩ := h
  exact ⟨g, cap, cur, fr, e, h1, (x.block _ (Rg.lt_of_heap h2)).trans h2, h3⟩
theorem BY.form {B : Nat} {w : World} {v : Value} {l : List Int} (h : BY B w v l) : ∃ g cap, v = .slice (some ⟨g, 0, none⟩) l.length cap := by
  obtain ⟨g, cap, -, -, e, -⟩ := h
  exact ⟨g, cap, e⟩
end Go.Proofs.Ytbeoihjfjkbfhaa

namespace Go.Proofs.Ytbeoihjfjkbfhaa
set_option linter.unusedVariables false
set_option linter.unusedSimpArgs false
open Go.RowKit Go.Shelf
attribute [local go_sem] Oper.semAt_some
@[local simp, local go_sem] theorem wide_fnS (f : FuncId) : Fence.wide.fn f = True := rfl
@[local simp, local go_sem] theorem wide_depthS : Fence.wide.depth = none := rfl
theorem Ext.below_trans {a b c : World} (h : Ext a b) (k : Below a.heap.size b c) : Ext a c := Below.trans h k
theorem BY.len {B : Nat} {w : World} {v : Value} {l : List Int} (h : BY B w v l) (n : Nat) (hn : l.length = n) : ∀ w0, (Builtin.len_ #[51] 3 #[v]).run Try.prog w0 = .ok (.int .i64 n) w0 := by
  obtain ⟨g, cap, rfl⟩ := h.form
  subst hn
  intro w0
  simp [go_sem, run_underlying Try.underlying51]
/-- A row of 32 bytes of which the first are these. -/
def rowB (l : List Int) : Array Value := (l.map (Value.int .u8) ++ List.replicate (32 - l.length) (Value.int .u8 0)).toArray
theorem cells_bytes (w : World) (l : List Int) : ∀ j x, l[j]? = some x → (w.alloc (.cells (l.map (Value.int .u8)).toArray 5)).cell? ((⟨w.heap.size, 0, none⟩ : Addr).add j) = some (.int .u8 x) := by
  intro j x hj
  rw [show (⟨w.heap.size, 0, none⟩ : Addr).add j = ⟨w.heap.size, j, none⟩ from by unfold Addr.add; split <;> simp_all]
  refine (cell_of_row _ _ j _ _ _ (alloc_at w _)).trans ?_
  simp [hj]
theorem Bt.others {q : Nat} {w w' : World} {cs : Array Value} {t : TypeId} {fr : Nat × Nat} (h : Bt q w w') (hq : w.heap[q]? = some (.cells cs t fr)) : KeepsOthers w w' :=
  ⟨h.size, fun k o hk ho => by
    by_cases e : k = q
    · subst e
      rw [hq] at hk
      cases hk
      cases ho
    · exact (h.block k (Rg.lt_of_heap hk) e).trans hk⟩
def absP (m : List Int) (c : Nat) (pre : List Nat) : S8 := pre.foldl (fun s x => blockS s ((m.drop (64 * (x % c))).take 64)) S0
theorem absP_snoc (m : List Int) (c : Nat) (pre : List Nat) (x : Nat) : absP m c (pre ++ [x]) = blockS (absP m c pre) ((m.drop (64 * (x % c))).take 64) := by
  unfold absP; rw [List.foldl_append]; rfl
theorem absP_range (m : List Int) (c : Nat) : ∀ k, k ≤ c → absP m c (List.range k) = absorb m k
  | 0, _ => rfl
  | k + 1, h => by rw [List.range_succ, absP_snoc, absP_range m c k (by omega), Nat.mod_eq_of_lt (by omega)]; rfl
theorem chunk_at {m : List Int} {w : World} {g : Nat} (h : ∀ i (h : i < m.length), w.cell? ⟨g, i, none⟩ = some (.int .u8 m[i])) {o : Nat} (ho : o + 64 ≤ m.length) :
    ((m.drop o).take 64).length = 64 ∧ ∀ k (hk : k < ((m.drop o).take 64).length), w.cell? ⟨g, o + k, none⟩ = some (.int .u8 ((m.drop o).take 64)[k]) := by
  have hl : ((m.drop o).take 64).length = 64 := by simp; omega
  refine ⟨hl, fun k hk => ?_⟩
  rw [List.getElem_take, List.getElem_drop]
  exact h (o + k) (by omega)
theorem wpList_load_row {ops : Array Oper} {rest : List Oper} {o : Oper} {a : Act} {w : World} {Q : Exit → Act → World → Prop} (hgd : o.guard = none) (T : TypeId) (x : Operand) (ho : o.op = .load T x)
    (g : Nat) (hx : a.eval x = .pointer (some ⟨g, 0, none⟩)) (cs : Array Value) (t : TypeId) (fr : Nat × Nat) (hg : w.heap[g]? = some (.cells cs t fr)) (n : Nat) (el : TypeId) (hu : Try.prog.underlying T = some (.array n el))
    (hi : (Try.prog.info? T).map (·.size) = some cs.size) (h : wpList Try.prog ops Q rest (a.put o.dst (.agg cs)) w) : wpList Try.prog ops Q (o :: rest) a w := by
  refine wpList_plain hgd fun K hK => ?_
  have hr := run_loadVar_row (P := Try.prog) w g t T cs _ (.array n el) hg hu rfl hi
  unfold Oper.wp execOp
  simp only [ho, hx, Instr.loadAt, Instr.sureAddr, Sem.run_bind, Sem.run_pure, Result.andThen_ok, hr]
  exact hK _ _ h
theorem slice32 (r : Nat) {j : Nat} (hj : j < 8) (w : World) :
    (Instr.sliceAt 78 (.pointer (some ⟨r, 0, none⟩)) (some (.int .i64 (4 * (j : Int)))) none none).run Try.prog w = .ok (.slice (some ⟨r, 4 * j, none⟩) (32 - 4 * j) (32 - 4 * j)) w := by
  rcases lt8 hj with rfl | rfl | rfl | rfl | rfl | rfl | rfl | rfl <;> simp [Instr.sliceAt, go_sem, run_underlying Try.underlying78]
def B4 (n : Nat) (x : Int) (v : Value) (w : World) : Prop := ∃ u, v = .slice (some ⟨u, 0, none⟩) 4 4 ∧ n ≤ u ∧ w.heap[u]? = some (.cells ((byteS x).map (Value.int .u8)).toArray 5)
theorem B4.ext {n : Nat} {x : Int} {v : Value} {w w' : World} (h : B4 n x v w) (e : Ext w w') : B4 n x v w' := by
  obtain ⟨u, h1, h2, h3⟩ := h
  exact ⟨u, h1, h2, (e.block _ (Rg.lt_of_heap h3)).trans h3⟩
theorem bytes_z (n : Nat) (x : Int) (w : World) (h : n ≤ w.heap.size) : Calls Try.prog 48 #[.int .u32 x] w fun e w' => ∃ v, e = .returned v ∧ Ext w w' ∧ B4 n x v w' :=
  (bytes_any x w).mono fun _ _ ⟨he, hw⟩ => ⟨_, he, hw ▸ Ext.alloc (Ext.refl _) _, _, rfl, h, hw ▸ alloc_at w _⟩
theorem outV_step (S : S8) {j : Nat} (hj : j < 8) : ((rowB ((outV S).take (4 * j))).toList.take (4 * j) ++ ((byteS (S.l.getD j 0)).map (Value.int .u8) ++ (rowB ((outV S).take (4 * j))).toList.drop (4 * j + 4))).toArray = rowB ((outV S).take (4 * (j + 1))) := by
  rcases lt8 hj with rfl | rfl | rfl | rfl | rfl | rfl | rfl | rfl <;> rfl
theorem rowB_size {l : List Int} (h : l.length ≤ 32) : (rowB l).size = 32 := by
  unfold rowB
  simp
  omega
theorem hold0 {f : World → Prop} {fs : List (World → Prop)} {w : World} (h : Rr.Holds (f :: fs) w) : f w := h _ List.mem_cons_self
theorem Bt.setRow {q : Nat} {a b : World} (h : Bt q a b) (cs : Array Value) : Bt q a (b.setRow q cs) :=
  ⟨h.os, h.tape, h.output, by simpa [World.setRow] using h.size, fun i hi hq => (setRow_other _ _ _ _ hq).trans (h.block i hi hq)⟩
theorem rowB_one (l : List Int) : ∀ v ∈ (rowB l).toList, v.oneCell' = true := by
  intro v hv
  simp only [rowB, List.mem_append, List.mem_map, List.mem_replicate] at hv
  rcases hv with ⟨y, -, rfl⟩ | ⟨-, rfl⟩ <;> rfl
theorem padV_eq (s : ByteArray) (z : Nat) (hs : s.size ≤ 4000) (hz : z = (120 - (s.size + 1) % 64) % 64) :
    bytesI s ++ [128] ++ List.replicate z 0 ++ byteS ((s.size : Int) * 8 / 4294967296) ++ byteS ((s.size : Int) * 8) = padV (bytesI s) := by
  unfold padV
  have e1 : (s.size : Int) * 8 / 4294967296 = ((8 * s.size : Nat) : Int) / 4294967296 := by omega
  have e2 : (s.size : Int) * 8 = ((8 * s.size : Nat) : Int) % 4294967296 := by omega
  rw [bytesI_len, hz, e1, ← e2]
set_option maxRecDepth 100000 in
set_option maxHeartbeats 4000000 in
theorem sum_any (s : ByteArray) (w : World) (hs : s.size ≤ 4000) :
    Calls Try.prog 40 #[.string s] w fun e w' => e = .returned (.agg ((sumV (bytesI s)).map (Value.int .u8)).toArray) ∧ Ext w w' := by
  refine (callsIn_wide (n := 5)).1 (callsIn_of_wp_marks Try.func40 rfl trivial (wpIn_wide.2 ?_) rfl)
  simp only [Try.ntmps40, List.size_toArray, List.length_cons, List.length_nil, Nat.reduceAdd, Nat.reduceSub, Array.replicate_succ, Array.replicate_zero, List.push_toArray, List.append_toArray, List.nil_append, List.cons_append]
  go_upto_region 1 with (fail)
  change Code.wp _ _ _ _ (w.alloc (.cells (rowB []) 78))
  obtain ⟨p, hp⟩ : ∃ p, p = w.heap.size := ⟨_, rfl⟩
  have hx0 : Ext w (w.alloc (.cells (rowB []) 78)) := Ext.alloc (Ext.refl _) _
  have hq0 : (w.alloc (.cells (rowB []) 78)).heap[p]? = some (.cells (rowB []) 78) := by rw [hp, alloc_at]
  generalize w.alloc (.cells (rowB []) 78) = W0 at *
  rw [← hp]
  have HP := Lib.hid hp
  clear hp
  have hbl := bytesI_len s
  obtain ⟨v1, w1, hr1, hb1, hx1⟩ := run_conv_by s W0
  have hx1a : Ext w1 (w1.alloc (.cells #[.int .u8 128] 5)) := Ext.alloc (Ext.refl _) _
  obtain ⟨v2, w2, hr2, hb2, hx2⟩ := run_append_by W0.heap.size v1 (bytesI s) (w1.alloc (.cells #[.int .u8 128] 5)) (hb1.ext hx1a) (Nat.le_trans hx1.size hx1a.size) ⟨w1.heap.size, 0, none⟩ 1 1 [128] rfl (fun j x hj => by
    have hj0 : j = 0 := by have := (List.getElem?_eq_some_iff.1 hj).1; simpa using this
    subst hj0
    rw [show (⟨w1.heap.size, 0, none⟩ : Addr).add 0 = ⟨w1.heap.size, 0, none⟩ from by simp [Addr.add]]
    refine (cell_of_row _ _ 0 _ _ _ (alloc_at w1 _)).trans ?_
    simpa using hj) (by omega) 51
  go_upto_region 2 with (refine wpList_append_run2 _ rfl _ _ 51 51 rfl _ _ (by rfl) (by rfl) hr2 ?_)
  have hl2 : (bytesI s ++ [128]).length = s.size + 1 := by simp [hbl]
  have hxA : Ext W0 w2 := (hx1.trans hx1a).below_trans hx2
  have hlen2 := hb2.len (s.size + 1) hl2
  obtain ⟨z, hz, hz2⟩ : ∃ z : Nat, (120 - ((s.size : Int) + 1) % 64) % 64 = z ∧ z = (120 - (s.size + 1) % 64) % 64 := ⟨_, by omega, rfl⟩
  obtain ⟨v3, w3, hr3, hb3, hx3⟩ := run_append_zeros W0.heap.size _ _ w2 hb2 hxA.size z (by rw [hl2]; omega) 51
  have HZ := Lib.hid hz2
  clear hz2
  go_upto_region 3 with (refine wpList_append_run2 _ rfl _ _ 51 3 rfl _ _ (by rfl) (by first | rfl | exact congrArg (Value.int .i64) hz) hr3 ?_)
  clear hlen2 hz hr3 hr2 hr1
  have hxB : Ext W0 w3 := hxA.below_trans hx3
  have hl3 : (bytesI s ++ [128] ++ List.replicate z 0).length ≤ 5000 := by
    have := HZ.out
    simp [hbl]
    omega
  obtain ⟨v4, w4, hr4, hb4, hx4⟩ := run_append_by W0.heap.size v3 _ (w3.alloc (.cells ((byteS ((s.size : Int) * 8 / 4294967296)).map (Value.int .u8)).toArray 5)) (hb3.ext (Ext.alloc (Ext.refl _) _)) (Nat.le_trans hxB.size (by simp)) ⟨w3.heap.size, 0, none⟩ 4 4 (byteS ((s.size : Int) * 8 / 4294967296)) rfl (cells_bytes w3 _) (by omega) 51
  have hxC : Ext W0 w4 := (hxB.trans (Ext.alloc (Ext.refl _) _)).below_trans hx4
  obtain ⟨v5, w5, hr5, hb5, hx5⟩ := run_append_by W0.heap.size v4 _ (w4.alloc (.cells ((byteS ((s.size : Int) * 8)).map (Value.int .u8)).toArray 5)) (hb4.ext (Ext.alloc (Ext.refl _) _)) (Nat.le_trans hxC.size (by simp)) ⟨w4.heap.size, 0, none⟩ 4 4 (byteS ((s.size : Int) * 8)) rfl (cells_bytes w4 _) (by simp [byteS_len] at hl3 ⊢; omega) 51
  go_upto_region 5 with (first
    | (go_at_call 48; (with_reducible refine (bytes_any _ w3).mono ?_); rintro e wa ⟨rfl, rfl⟩)
    | (go_at_call 48; (with_reducible refine (bytes_any _ w4).mono ?_); rintro e wa ⟨rfl, rfl⟩)
    | (refine wpList_append_run2 _ rfl _ _ 51 51 rfl _ _ (by rfl) (by rfl) hr4 ?_)
    | (refine wpList_append_run2 _ rfl _ _ 51 51 rfl _ _ (by rfl) (by rfl) hr5 ?_))
  have hb6 := padV_eq s z hs HZ.out ▸ hb5
  have hxD : Ext W0 w5 := (hxC.trans (Ext.alloc (Ext.refl _) _)).below_trans hx5
  clear hr4 hr5 hb4 hb5 hb3 hb2 hb1 hx1 hx1a hx2 hx3 hx4 hx5 hxA hxB hxC hl3 hl2
  have hml := padV_len (bytesI s)
  have hmm := padV_mod (bytesI s)
  have hmi := padV_in (bytesI_in s)
  generalize hM : padV (bytesI s) = m at hb6 hml hmm hmi
  obtain ⟨c, hc⟩ : ∃ c, m.length = 64 * c := ⟨m.length / 64, by omega⟩
  have hc0 : c ≤ 100 := by rw [bytesI_len] at hml; omega
  clear hml hmm
  obtain ⟨g, cap, cur, fr, rfl, hg0, hg, -, hcs, hlc, htk⟩ := hb6
  rw [hc] at htk hlc ⊢
  have HC := Lib.hid hc; have HM := Lib.hid hM
  clear hc hM
  have hrow : ∀ i (h : i < m.length), w5.cell? ⟨g, i, none⟩ = some (.int .u8 m[i]) := fun i h => by
    rw [cell_of_row _ _ _ _ _ _ hg, show cur[i]? = cur.toList[i]? from by simp, ← List.getElem?_take_of_lt (l := cur.toList) (show i < 64 * c by rw [← HC.out]; exact h), htk]
    simp [h]
  have HR := Lib.hid hrow
  have hgl := Rg.lt_of_heap hg
  clear hrow htk hcs hg
  go_upto_region 6 with (first
    | (go_at_call 49; (with_reducible refine (start_any _).mono ?_); rintro e w6 ⟨rfl, hx6⟩)
    | (refine wpList_store_row (hgd := rfl) 90 (.tmp 5) (.tmp 35) rfl w6.heap.size (by rfl) (rowN H8) (by rfl) (rowN [0, 0, 0, 0, 0, 0, 0, 0]) 90 (alloc_at w6 _) (by rfl) (by kernel_rfl) (rowN_one _) ?_))
  change Code.wp _ _ _ _ ((w6.alloc (.cells (rowN [0, 0, 0, 0, 0, 0, 0, 0]) 90)).setRow w6.heap.size (rowN H8))
  have hX : Ext w5 ((w6.alloc (.cells (rowN [0, 0, 0, 0, 0, 0, 0, 0]) 90)).setRow w6.heap.size (rowN H8)) := below_setRow (Ext.alloc hx6 _) hx6.size _
  have hQ : ((w6.alloc (.cells (rowN [0, 0, 0, 0, 0, 0, 0, 0]) 90)).setRow w6.heap.size (rowN H8)).heap[w6.heap.size]? = some (.cells (rowN S0.l) 90) := setRow_heap _ _ _ _ _ _ (alloc_at w6 _)
  have hqs : w5.heap.size ≤ w6.heap.size := hx6.size
  obtain ⟨q, hq⟩ : ∃ q, q = w6.heap.size := ⟨_, rfl⟩
  rw [← hq] at hX hQ hqs ⊢
  generalize ((w6.alloc (.cells (rowN [0, 0, 0, 0, 0, 0, 0, 0]) 90)).setRow q (rowN H8)) = W at *
  clear hq hx6
  go_wp2_with (go_at_call 50; (with_reducible refine (chunk_any _ _ _ _).mono ?_); rintro e w7 ⟨rfl, rfl⟩)
  have cB := (two_blocks W (.cells #[.slice (some ⟨g, 0, none⟩) (64 * c) cap] 51) (.cells #[.int .i64 64] 3)).1
  have cN := (two_blocks W (.cells #[.slice (some ⟨g, 0, none⟩) (64 * c) cap] 51) (.cells #[.int .i64 64] 3)).2
  have hX2 : Ext W ((W.alloc (.cells #[.slice (some ⟨g, 0, none⟩) (64 * c) cap] 51)).alloc (.cells #[.int .i64 64] 3)) := Ext.alloc (Ext.alloc (Ext.refl _) _) _
  have hS2 : ((W.alloc (.cells #[.slice (some ⟨g, 0, none⟩) (64 * c) cap] 51)).alloc (.cells #[.int .i64 64] 3)).heap.size = W.heap.size + 2 := by simp
  generalize ((W.alloc (.cells #[.slice (some ⟨g, 0, none⟩) (64 * c) cap] 51)).alloc (.cells #[.int .i64 64] 3)) = V at *
  have hqW := Rg.lt_of_heap hQ
  have hQV := (hX2.block _ hqW).trans hQ
  have hgq : g ≠ q := by omega
  have HRV : Hid (∀ i (h : i < m.length), V.cell? ⟨g, i, none⟩ = some (.int .u8 m[i])) := Lib.hid fun i h => by
    have hgW : g < W.heap.size := Nat.lt_of_lt_of_le hgl hX.size
    exact (hX2.cells.1 _ _ hgW).trans ((hX.cells.1 _ _ hgl).trans (HR.out i h))
  clear HR
  refine (wpIn_wide (n := 5)).1 ?_
  refine wpIn_rangeFunc_ownF rfl (by omega) (gf := 66) (lb := #[.pointer (some ⟨W.heap.size, 0, none⟩), .pointer (some ⟨W.heap.size + 1, 0, none⟩)]) rfl trivial (enters_of Try.func66 (by kernel_rfl) rfl)
    (chunk_stops Fence.wide 4 trivial rfl (by omega) W.heap.size (W.heap.size + 1) q V.heap.size g 0 c cap (by omega) (by omega) (by omega) hlc V (by omega) (by omega) (Nat.le_refl _) (by rw [cell_of_row _ _ _ _ _ _ cB]; rfl) (by rw [cell_of_row _ _ _ _ _ _ cN]; rfl))
    (fun h k => Bel.trans h k) (fun W' l o o' hl _ _ _ => Bel.put _ _ _ hl) (Below.refl _ _) (fun _ => rfl)
    (fun pre W' => W'.heap[q]? = some (.cells (rowN (absP m c pre).l) 90) ∧ Bel q V.heap.size V W')
    (fun _ _ _ => False) ?hI (fun _ _ _ _ _ hs _ _ => hs) ⟨hQV, Bel.refl _ _ _⟩
    (fun x => { tmps := #[.string s, undef, .pointer (some ⟨p, 0, none⟩), .slice (some ⟨g, 0, none⟩) (64 * c) cap, .int .u64 (↑s.size * 8), .pointer (some ⟨q, 0, none⟩), .slice (some ⟨g, 64 * (x % c), none⟩) 64 64, undef, undef, undef, .string s, v1, .slice (some ⟨w1.heap.size, 0, none⟩) 1 1, v2, v2, v2, .int .i64 (↑s.size + 1), .int .i64 ((↑s.size + 1) % 64), .int .i64 (120 - (↑s.size + 1) % 64), .int .i64 ↑z, v3, .string s, .int .i64 ↑s.size, .int .u64 ↑s.size, .int .u64 (↑s.size * 8), v3, .int .u64 (↑s.size * 8), .int .u64 (↑s.size * 8 / 4294967296), .int .u32 (↑s.size * 8 / 4294967296), .slice (some ⟨w3.heap.size, 0, none⟩) 4 4, v4, .int .u64 (↑s.size * 8), .int .u32 (↑s.size * 8), .slice (some ⟨w4.heap.size, 0, none⟩) 4 4, .slice (some ⟨g, 0, none⟩) (64 * c) cap, .agg (rowN H8), .slice (some ⟨g, 0, none⟩) (64 * c) cap, .func (.func 66) #[] #[.pointer (some ⟨W.heap.size, 0, none⟩), .pointer (some ⟨W.heap.size + 1, 0, none⟩)], .slice (some ⟨g, 64 * (x % c), none⟩) 64 64, undef, undef, undef, undef, undef, undef, undef, undef, undef, undef, undef, undef, undef, undef, undef], defers := [] })
    ?assign ?body ?done ?stop
  case hI =>
    intro pre W1 W2 row hs hg hr
    exact ⟨(hg.block q (Rg.lt_of_heap hs.1) (fun e => by have := (hr q e.symm).1; omega)).trans hs.1, hs.2.grown hg (hs.2.size) (fun r e => (hr r e).1)⟩
  case assign =>
    intro l x W' K hK
    gi_wp2
    exact hK
  case body =>
    rintro l pre x W' ⟨h1, h2⟩ hN
    have hc1 : 0 < c := by omega
    have hxc := Nat.mod_lt x hc1
    have hrw : ∀ i (h : i < m.length), W'.cell? ⟨g, i, none⟩ = some (.int .u8 m[i]) := fun i h => (h2.cell (p := ⟨g, i, none⟩) (by show g < V.heap.size; have := hX2.size; have := hX.size; omega) hgq).trans (HRV.out i h)
    obtain ⟨hl6, hc6⟩ := chunk_at hrw (o := 64 * (x % c)) (by rw [HC.out]; omega)
    have hA := add_any g (64 * (x % c)) 64 64 ((m.drop (64 * (x % c))).take 64) (absP m c pre) q W' (Nat.le_refl _) (Nat.le_refl _) (by have := hX2.size; have := hX.size; have := h2.size; omega) hl6
      (fun k hk => hmi _ (List.mem_of_mem_drop (List.mem_of_mem_take (List.getElem_mem hk)))) hc6 h1
    have HA := Lib.hid hA
    clear hA hc6 hrw
    gi_wp2_with (gi_at_call 51; refine (CallsIn.inRound l ((callsIn_wide (n := 2)).2 HA.out)).mono ?_; rintro e w9 ⟨rfl, hb9, hq9⟩)
    exact ⟨hb9.others h1, Bel.of_bt hb9 h2.size, by rw [absP_snoc]; exact hq9, h2.trans (Bel.of_bt hb9 h2.size)⟩
  case stop =>
    rintro D c pre W' _ _ h _
    exact h.elim
  case done =>
    rintro D ys W1 hD rfl ⟨h1, h2⟩ hK
    rw [absP_range m c c (Nat.le_refl _)] at h1
    have hsum : sumV (bytesI s) = outV (absorb m c) := by
      unfold sumV
      rw [HM.out, HC.out, Nat.mul_div_cancel_left _ (by omega)]
    have hp2 : p < W0.heap.size := Rg.lt_of_heap hq0
    have hs1 := hxD.size; have hs2 := hX.size; have hs3 := hX2.size; have hs4 := h2.size; have hs5 := hx0.size
    have hDw : w.heap.size ≤ D := by omega
    have hEx : Ext w W1 := ⟨h2.os.trans (hX2.os.trans (hX.os.trans (hxD.os.trans hx0.os))), h2.tape.trans (hX2.tape.trans (hX.tape.trans (hxD.tape.trans hx0.tape))), h2.output.trans (hX2.output.trans (hX.output.trans (hxD.output.trans hx0.output))), by omega, fun k hk => (h2.block k (by omega) (by omega)).trans ((hX2.block k (by omega)).trans ((hX.block k (by omega)).trans ((hxD.block k (by omega)).trans (hx0.block k hk))))⟩
    have hpW : W1.heap[p]? = some (.cells (rowB []) 78) := (h2.block p (by omega) (by omega)).trans ((hX2.block p (by omega)).trans ((hX.block p (by omega)).trans ((hxD.block p hp2).trans hq0)))
    clear hxD hX hX2 hQ hQV HRV HC HM h2 cB cN hlc hgl hc0 hgq hqW hs1 hs2 hs3 hs4 hs5 hqs hx0 hq0 hS2 hg0 hp2 hmi
    generalize absorb m c = S at *
    have HA := Lib.hid h1; have HE := Lib.hid hEx; have HPW := Lib.hid hpW; have HK := Lib.hid hK; have HS := Lib.hid hsum
    clear h1 hEx hpW hK hsum
    dsimp only
    go_upto_region 10 with (fail)
    change Code.wp _ _ _ _ (W1.alloc (.cells (rowB []) 78))
    have hx1 : Ext W1 (W1.alloc (.cells (rowB []) 78)) := Ext.alloc (Ext.refl _) _
    have JA : Hid ((W1.alloc (.cells (rowB []) 78)).heap[q]? = some (.cells (rowN S.l) 90)) := Lib.hid ((hx1.block _ (Rg.lt_of_heap HA.out)).trans HA.out)
    have JP : Hid ((W1.alloc (.cells (rowB []) 78)).heap[p]? = some (.cells (rowB []) 78)) := Lib.hid ((hx1.block _ (Rg.lt_of_heap HPW.out)).trans HPW.out)
    have JK : Hid ((W1.alloc (.cells (rowB []) 78)).heap[D]? = some (.deferred (some []))) := Lib.hid ((hx1.block _ (Rg.lt_of_heap HK.out)).trans HK.out)
    have JE : Hid (Ext w (W1.alloc (.cells (rowB []) 78))) := Lib.hid (HE.out.trans hx1)
    have JR : Hid ((W1.alloc (.cells (rowB []) 78)).heap[W1.heap.size]? = some (.cells (rowB []) 78)) := Lib.hid (alloc_at W1 _)
    obtain ⟨r, hr⟩ : ∃ r, r = W1.heap.size := ⟨_, rfl⟩
    have hDr : D < r := by rw [hr]; exact Rg.lt_of_heap HK.out
    have hpr : p < r := by rw [hr]; exact Rg.lt_of_heap HPW.out
    rw [← hr] at JR ⊢
    generalize W1.alloc (.cells (rowB []) 78) = V1 at *
    clear HA HPW HK HE hx1 hr
    have hwr : w.heap.size ≤ r := by have := JE.out.size; have h9 := HP.out; omega
    go_upto_region 11 with (refine wpList_load_row rfl 90 (.tmp 5) rfl q (by rfl) (rowN S.l) 90 (0, 0) JA.out 8 89 Try.underlying90 (by kernel_rfl) ?_)
    go_wp2_with (fail)
    go_loopw [42] (fun k wr => ∃ j : Nat, k = .int .i64 j ∧ j ≤ 8 ∧ Hid (wr.heap[r]? = some (.cells (rowB ((outV S).take (4 * j))) 78)) ∧ Hid (Bt r V1 wr)) (fun k _ => 8 - (iof k).toNat)
    case atStart => exact ⟨0, rfl, by omega, JR, Lib.hid (Bt.of_ext (Ext.refl _))⟩
    case round =>
      obtain ⟨j, rfl, hj, KR, KB⟩ := hrel
      by_cases hj8 : j < 8
      · obtain ⟨x, hx⟩ : ∃ x, x = S.l.getD j 0 := ⟨_, rfl⟩
        have IX : ∀ w, (Instr.index 90 (.agg (rowN S.l)) (.int .i64 (j : Int))).run Try.prog w = .ok (.int .u32 x) w := fun w => by rw [hx]; exact index8 S.a S.b S.c S.d S.e S.f S.g S.h hj8 w
        have HX := Lib.hid hx
        clear hx
        go_upto_region 13 with (fail)
        clear IX
        have hwj : IntKind.i64.wrap (4 * (j : Int)) = 4 * (j : Int) := by rw [IntKind.wrap_i64]; omega
        have hsl := fun w => slice32 r hj8 w
        have hrl := Rg.lt_of_heap KR.out
        refine Rr.wp_region [(0, .y), (1, .y), (2, .y), (3, .y), (4, .z)] (fun _ => (.cells #[] 29, Rg.ptr)) (by kernel_rfl) (by kernel_rfl) ?_
        (refine Rr.wr_y (by simp only [List.getElem?_toArray, List.getElem?_cons_succ, List.getElem?_cons_zero]; rfl) (by rfl) ?_
         apply Exists.intro
         refine ⟨fun wz hw _ => ?_, ?_⟩
         · have hcz := hw.cells.1
           go_simp
           (with_reducible exact Rg.up_value)
         simp only [Act.put, List.setIfInBounds_toArray, List.set_cons_zero, List.set_cons_succ])
        (refine Rr.wr_y (by simp only [List.getElem?_toArray, List.getElem?_cons_succ, List.getElem?_cons_zero]; rfl) (by rfl) ?_
         apply Exists.intro
         refine ⟨fun wz hw _ => ?_, ?_⟩
         · have hcz := hw.cells.1
           go_simp
           (with_reducible exact Rg.up_value)
         simp only [Act.put, List.setIfInBounds_toArray, List.set_cons_zero, List.set_cons_succ])
        (refine Rr.wr_y (by simp only [List.getElem?_toArray, List.getElem?_cons_succ, List.getElem?_cons_zero]; rfl) (by rfl) ?_
         apply Exists.intro
         refine ⟨fun wz hw _ => ?_, ?_⟩
         · have hcz := hw.cells.1
           go_simp
           (with_reducible exact Rg.up_value)
         simp only [Act.put, List.setIfInBounds_toArray, List.set_cons_zero, List.set_cons_succ])
        (refine Rr.wr_y (by simp only [List.getElem?_toArray, List.getElem?_cons_succ, List.getElem?_cons_zero]; rfl) (by rfl) ?_
         apply Exists.intro
         refine ⟨fun wz hw _ => ?_, ?_⟩
         · have hcz := hw.cells.1
           go_simp
           (with_reducible exact Rg.up_value)
         simp only [Act.put, List.setIfInBounds_toArray, List.set_cons_zero, List.set_cons_succ])
        refine Rr.wr_z (fun v w' => B4 wr.heap.size x v w') (by simp only [List.getElem?_toArray, List.getElem?_cons_succ, List.getElem?_cons_zero]; rfl) (by rfl) (fun v w1 w2 h e => by first | exact Rd.ext e h | exact h.ext e) (fun wz hw hh => ?_) (fun u => ?_)
        · have hcz := hw.cells.1
          go_simp
          apply Rr.upR_enter
          (with_reducible refine (bytes_z wr.heap.size x wz hw.size).mono ?_)
          rintro e w3 ⟨v3, rfl, hx3, hr3⟩
          exact ⟨v3, rfl, hx3, hr3⟩
        simp only [Act.put, List.setIfInBounds_toArray, List.set_cons_zero, List.set_cons_succ]
        refine Rr.wr_nil ?_
        intro wy hy hh
        obtain ⟨u9, rfl, hu1, hu2⟩ := hold0 hh
        clear hh hsl hwj
        simp only [List.length_cons, List.length_nil, List.drop_succ_cons, List.drop_zero, Nat.reduceAdd]
        have hKy := (hy.block _ hrl).trans KR.out
        have hl4 : ((byteS x).map (Value.int .u8)).length = 4 := rfl
        have hls : ((outV S).take (4 * j)).length ≤ 32 := by rw [List.length_take]; exact Nat.le_trans (Nat.min_le_left _ _) (by omega)
        refine wpList_copy_own rfl (.tmp 48) (.tmp 50) 51 51 rfl 5 Try.underlying51 (by kernel_rfl) r (4 * j) (32 - 4 * j) (32 - 4 * j) ⟨u9, 0, none⟩ 4 4 (by rfl) (by rfl) _ 78 hKy ((byteS x).map (Value.int .u8)) (by rw [hl4]; exact (Nat.min_eq_left (by omega)).symm) (fun k v hv => by
          rw [show (⟨u9, 0, none⟩ : Addr).add k = ⟨u9, k, none⟩ from by unfold Addr.add; split <;> simp_all]
          refine (cell_of_row _ _ k _ _ _ hu2).trans ?_
          simpa using hv) (by rw [hl4, rowB_size hls]; omega) (fun v hv => by
            obtain ⟨y, -, rfl⟩ := List.mem_map.1 hv
            rfl) ?_
        rw [hl4, HX.out, outV_step S hj8]
        have KR2 : Hid ((wy.setRow r (rowB ((outV S).take (4 * (j + 1))))).heap[r]? = some (.cells (rowB ((outV S).take (4 * (j + 1)))) 78)) := Lib.hid (setRow_heap _ _ _ _ _ _ hKy)
        have KB2 : Hid (Bt r V1 (wy.setRow r (rowB ((outV S).take (4 * (j + 1)))))) := Lib.hid ((KB.out.trans (Bt.of_ext hy)).setRow _)
        generalize wy.setRow r (rowB ((outV S).take (4 * (j + 1)))) = w9 at *
        clear hKy hl4 hls hu1 hu2 hy hrl KR KB
        simp only [Act.put, List.setIfInBounds_toArray, List.set_cons_zero, List.set_cons_succ]
        go_wp2_with (fail)
        exact ⟨⟨j + 1, by simp, by omega, KR2, KB2⟩, by simp [iof]; omega⟩
      · obtain rfl : j = 8 := by omega
        have e32 : (outV S).take (4 * 8) = outV S := rfl
        have hR8 := KR.out
        rw [e32] at hR8
        have hP8 := (KB.out.block p (Rg.lt_of_heap JP.out) (by omega)).trans JP.out
        have HR8 := Lib.hid hR8; have HP8 := Lib.hid hP8
        clear hR8 hP8
        go_wp2_with (first
          | (refine wpList_load_row rfl 78 (.tmp 7) rfl r (by rfl) (rowB (outV S)) 78 (0, 0) HR8.out 32 5 Try.underlying78 (by kernel_rfl) ?_)
          | (refine wpList_store_row (hgd := rfl) 78 (.tmp 2) (.tmp 53) rfl p (by rfl) (rowB (outV S)) (by rfl) (rowB []) 78 HP8.out (by rfl) (by kernel_rfl) (rowB_one _) ?_))
        have hKf : (wr.setRow p (rowB (outV S))).heap[D]? = some (.deferred (some [])) := by
          have h1 := (KB.out.block D (Rg.lt_of_heap JK.out) (by omega)).trans JK.out
          rw [setRow_other _ _ _ _ (by rintro rfl; rw [HP8.out] at h1; cases h1)]
          exact h1
        have hpf : (wr.setRow p (rowB (outV S))).heap[p]? = some (.cells (rowB (outV S)) 78) := setRow_heap _ _ _ _ _ _ HP8.out
        have hDp : p ≠ D := by rintro rfl; rw [hpf] at hKf; cases hKf
        have hFx : Ext w (wr.setRow p (rowB (outV S))) := below_setRow (KB.out.ext JE.out hwr) (Nat.le_of_eq HP.out.symm) _
        have hpF : ((wr.setRow p (rowB (outV S))).putObj D (.deferred none)).heap[p]? = some (.cells (rowB (outV S)) 78) := (World.putObj_heap_other hDp).trans hpf
        have hFX : Ext w ((wr.setRow p (rowB (outV S))).putObj D (.deferred none)) := ⟨hFx.os, hFx.tape, hFx.output, by simpa [World.putObj] using hFx.size, fun k hk => (World.putObj_heap_other (by omega)).trans (hFx.block k hk)⟩
        have hload := run_loadVar_row (P := Try.prog) _ p 78 78 (rowB (outV S)) _ (.array 32 5) hpF Try.underlying78 rfl (by kernel_rfl)
        simp only [Act.put, List.setIfInBounds_toArray, List.set_cons_zero, List.set_cons_succ]
        refine ⟨by simp, .inl ⟨_, _, rfl, run_takeDeferred hKf, ?_⟩⟩
        clear hKf hFx hpf
        generalize ((wr.setRow p (rowB (outV S))).putObj D (.deferred none)) = WF at *
        have e33 : (Value.agg (rowB (outV S))) = .agg ((sumV (bytesI s)).map (Value.int .u8)).toArray := by rw [HS.out]; rfl
        rw [e33] at hload
        exact ⟨_, by simp [results, Try.results40, asAddr, hload], rfl, hFX⟩
end Go.Proofs.Ytbeoihjfjkbfhaa

namespace Go.Proofs.Ytbeoihjfjkbfhaa
set_option linter.unusedVariables false
set_option linter.unusedSimpArgs false
open Go.RowKit
set_option maxRecDepth 100000 in
set_option maxHeartbeats 4000000 in
theorem rrounds_any (w : World) : Calls Try.prog 80 #[] w fun e w' => e = .returned (.agg (rowN K64)) ∧ Ext w w' := by
  go_enter Try.func80, Try.ntmps80
  go_upto_region 1 with (fail)
  change Code.wp _ _ _ _ (w.alloc (.cells (rowW []) 109))
  obtain ⟨p, hp⟩ : ∃ p, p = w.heap.size := ⟨_, rfl⟩
  have hx1 : Ext w (w.alloc (.cells (rowW []) 109)) := Ext.alloc (Ext.refl _) _
  have hq : (w.alloc (.cells (rowW []) 109)).heap[p]? = some (.cells (rowW []) 109) := by rw [hp, alloc_at]
  generalize (w.alloc (.cells (rowW []) 109)) = W1 at *
  rw [← hp]
  have HP := Lib.hid hp
  clear hp
  have HQ := Lib.hid hq
  clear hq
  go_wp2_with (refine wpList_store_row (hgd := rfl) 109 (.tmp 0) (.tmp 1) rfl p (by rfl) (rowN K64) (by rfl) _ 109 HQ.out (by rfl) (by kernel_rfl) (rowN_one _) ?_)
  refine bodyPost_ret (v := .agg (rowN K64)) (results_cell_row Try.results80 _ _ p 109 _ _ _ (by rfl) (setRow_heap _ _ _ _ _ _ HQ.out) Try.underlying109 rfl (by kernel_rfl)) rfl ⟨rfl, below_setRow hx1 (by have := HP.out; omega) _⟩
end Go.Proofs.Ytbeoihjfjkbfhaa

namespace Go.Proofs.Ytbeoihjfjkbfhaa
set_option linter.unusedVariables false
set_option linter.unusedSimpArgs false
open Go.RowKit
theorem bytesI_app (a b : ByteArray) : bytesI (a ++ b) = bytesI a ++ bytesI b := by
  unfold bytesI
  rw [show (a ++ b).data = a.data ++ b.data from ByteArray.data_append, Array.toList_append, List.map_append]
theorem size_app (a b : ByteArray) : (a ++ b).size = a.size + b.size := by rw [← bytesI_len, bytesI_app, List.length_append, bytesI_len, bytesI_len]
/-- The eight bytes of a length. -/
def b8 (N : Int) : List Int := [N / 72057594037927936 % 256, N / 281474976710656 % 256, N / 1099511627776 % 256, N / 4294967296 % 256, N / 16777216 % 256, N / 65536 % 256, N / 256 % 256, N % 256]
theorem bytesI_num {x : Int} (h0 : 0 ≤ x) (h1 : x < 256) : bytesI (strOfNums [x]) = [x] := by
  show [(((UInt8.ofNat x.toNat).toNat : Nat) : Int)] = [x]
  rw [UInt8.toNat_ofNat', Nat.mod_eq_of_lt (by omega), Int.toNat_of_nonneg h0]
def szV : Value → Nat
  | .string u => u.size
  | _ => 0
set_option maxRecDepth 100000 in
set_option maxHeartbeats 4000000 in
theorem padded_any (s : ByteArray) (w : World) (hs : s.size ≤ 1000000) :
    Calls Try.prog 71 #[.string s] w fun e w' => ∃ t, e = .returned (.string t) ∧ bytesI t = padV (bytesI s) ∧ Ext w w' := by
  obtain ⟨n, hn⟩ : ∃ n, n = s.size := ⟨_, rfl⟩
  obtain ⟨pd, hpd⟩ : ∃ pd, pd = (120 - (n + 1) % 64) % 64 := ⟨_, rfl⟩
  have HN := Lib.hid hn; have HPD := Lib.hid hpd
  have hn6 : n ≤ 1000000 := by omega
  clear hn hpd
  go_enter Try.func71, Try.ntmps71
  go_upto_region 2 with (fail)
  obtain ⟨u0, hu0⟩ : ∃ u0, u0 = s ++ (⟨#[128]⟩ : ByteArray) := ⟨_, rfl⟩
  rw [← hu0]
  have HU0 : Hid (bytesI u0 = bytesI s ++ [128] ++ List.replicate 0 0) := Lib.hid (by rw [hu0, bytesI_app, List.replicate_zero, List.append_nil]; rfl)
  clear hu0
  go_loopw [3] (fun tv wr => ∃ (u : ByteArray) (k : Nat), tv = .string u ∧ k ≤ pd ∧ Hid (bytesI u = bytesI s ++ [128] ++ List.replicate k 0) ∧ Hid (Ext w wr)) (fun tv _ => 2000000 - szV tv)
  case atStart => exact ⟨u0, 0, rfl, Nat.zero_le _, HU0, Lib.hid (Ext.refl _)⟩
  case round =>
    obtain ⟨u, k, rfl, hk, HU, HX⟩ := hrel
    have hul : u.size = n + 1 + k := by have := HN.out; rw [← bytesI_len, HU.out]; simp only [List.length_append, List.length_replicate, List.length_cons, List.length_nil, bytesI_len]; omega
    have hpd1 : pd < 64 := by rw [HPD.out]; omega
    have HUL := Lib.hid hul
    have h2m : u.size < 2000000 := by omega
    have hnu : (u ++ (⟨#[0]⟩ : ByteArray)).size = u.size + 1 := by rw [size_app]; rfl
    by_cases hk2 : k = pd
    · have h56 : (u.size : Int) % 64 = 56 := by have := HPD.out; omega
      subst hk2
      clear hul hnu
      go_wp2_with (fail)
      have HLN := Lib.hid HU.out
      go_loopw [3, 5] (fun tv kv wr => ∃ (t : ByteArray) (j : Nat), tv = .string t ∧ kv = .int .i64 (7 - j) ∧ j ≤ 8 ∧ Hid (bytesI t = bytesI u ++ (b8 (s.size * 8)).take j) ∧ Hid (t.size ≤ 2000000 + j) ∧ Hid (Ext w wr)) (fun _ kv _ => (iof kv + 1).toNat)
      case atStart => exact ⟨u, 0, rfl, rfl, by omega, Lib.hid (by rw [List.take_zero, List.append_nil]), Lib.hid (by omega), HX⟩
      case round =>
        obtain ⟨t, j, rfl, rfl, hj, HT, HTS, HX2⟩ := hrel
        have hts : t.size ≤ 2000008 := Nat.le_trans HTS.out (by omega)
        obtain ⟨N, hN⟩ : ∃ N : Int, N = s.size * 8 := ⟨_, rfl⟩
        rw [← hN] at HT ⊢
        have HNN := Lib.hid hN
        have N0 : 0 ≤ N := by omega
        have N1 : N ≤ 8000000 := by omega
        clear hN
        obtain ⟨sx, hsx⟩ : ∃ sx : Int → ByteArray, ∀ x, sx x = strOfNums [x] := ⟨_, fun _ => rfl⟩
        have hcv : ∀ x : Int, (convert 51 9 (.slice (some ⟨wr.heap.size, 0, none⟩) 1 1)).run Try.prog (wr.alloc (.cells #[.int .u8 x] 5)) = .ok (.string (sx x)) (wr.alloc (.cells #[.int .u8 x] 5)) := fun x => by
          rw [hsx]
          exact run_convert_bytes_arg (P := Try.prog) (wr.alloc (.cells #[.int .u8 x] 5)) 51 5 Try.underlying51 Try.underlying5 wr.heap.size 0 1 1 [x] rfl (fun i hi => by
            obtain rfl : i = 0 := by omega
            exact cell_of_row _ _ 0 _ _ _ (alloc_at wr _)) 9 Try.underlying9
        have hszx : ∀ x, (sx x).size = 1 := fun x => by rw [hsx, strOfNums_size]; rfl
        have HSX := Lib.hid hsx
        clear hsx
        have hcases : j = 0 ∨ j = 1 ∨ j = 2 ∨ j = 3 ∨ j = 4 ∨ j = 5 ∨ j = 6 ∨ j = 7 ∨ j = 8 := by omega
        rcases hcases with rfl | rfl | rfl | rfl | rfl | rfl | rfl | rfl | rfl
        · go_wp2_with (fail)
          refine ⟨⟨_, 1, rfl, by simp, by omega, Lib.hid ?_, Lib.hid ?_, Lib.hid (Ext.alloc HX2.out _)⟩, by simp [iof]⟩
          · rw [bytesI_app, HT.out, HSX.out, bytesI_num (by omega) (by omega), List.append_assoc]
            simp [b8]
            try omega
          · rw [size_app, hszx]
            have := HTS.out
            omega
        · go_wp2_with (fail)
          refine ⟨⟨_, 2, rfl, by simp, by omega, Lib.hid ?_, Lib.hid ?_, Lib.hid (Ext.alloc HX2.out _)⟩, by simp [iof]⟩
          · rw [bytesI_app, HT.out, HSX.out, bytesI_num (by omega) (by omega), List.append_assoc]
            simp [b8]
            try omega
          · rw [size_app, hszx]
            have := HTS.out
            omega
        · go_wp2_with (fail)
          refine ⟨⟨_, 3, rfl, by simp, by omega, Lib.hid ?_, Lib.hid ?_, Lib.hid (Ext.alloc HX2.out _)⟩, by simp [iof]⟩
          · rw [bytesI_app, HT.out, HSX.out, bytesI_num (by omega) (by omega), List.append_assoc]
            simp [b8]
            try omega
          · rw [size_app, hszx]
            have := HTS.out
            omega
        · go_wp2_with (fail)
          refine ⟨⟨_, 4, rfl, by simp, by omega, Lib.hid ?_, Lib.hid ?_, Lib.hid (Ext.alloc HX2.out _)⟩, by simp [iof]⟩
          · rw [bytesI_app, HT.out, HSX.out, bytesI_num (by omega) (by omega), List.append_assoc]
            simp [b8]
            try omega
          · rw [size_app, hszx]
            have := HTS.out
            omega
        · go_wp2_with (fail)
          refine ⟨⟨_, 5, rfl, by simp, by omega, Lib.hid ?_, Lib.hid ?_, Lib.hid (Ext.alloc HX2.out _)⟩, by simp [iof]⟩
          · rw [bytesI_app, HT.out, HSX.out, bytesI_num (by omega) (by omega), List.append_assoc]
            simp [b8]
            try omega
          · rw [size_app, hszx]
            have := HTS.out
            omega
        · go_wp2_with (fail)
          refine ⟨⟨_, 6, rfl, by simp, by omega, Lib.hid ?_, Lib.hid ?_, Lib.hid (Ext.alloc HX2.out _)⟩, by simp [iof]⟩
          · rw [bytesI_app, HT.out, HSX.out, bytesI_num (by omega) (by omega), List.append_assoc]
            simp [b8]
            try omega
          · rw [size_app, hszx]
            have := HTS.out
            omega
        · go_wp2_with (fail)
          refine ⟨⟨_, 7, rfl, by simp, by omega, Lib.hid ?_, Lib.hid ?_, Lib.hid (Ext.alloc HX2.out _)⟩, by simp [iof]⟩
          · rw [bytesI_app, HT.out, HSX.out, bytesI_num (by omega) (by omega), List.append_assoc]
            simp [b8]
            try omega
          · rw [size_app, hszx]
            have := HTS.out
            omega
        · go_wp2_with (fail)
          refine ⟨⟨_, 8, rfl, by simp, by omega, Lib.hid ?_, Lib.hid ?_, Lib.hid (Ext.alloc HX2.out _)⟩, by simp [iof]⟩
          · rw [bytesI_app, HT.out, HSX.out, bytesI_num (by omega) (by omega), List.append_assoc]
            simp [b8]
            try omega
          · rw [size_app, hszx]
            have := HTS.out
            omega
        · go_wp2_with (fail)
          go_ret
          refine ⟨t, rfl, ?_, HX2.out⟩
          have e : ((8 * n : Nat) : Int) = N := by have := HNN.out; have := HN.out; omega
          have hb : b8 N = byteS (N / 4294967296) ++ byteS (N % 4294967296) := by
            simp only [b8, byteS, List.cons_append, List.nil_append, List.cons.injEq, and_true]
            refine ⟨?_, ?_, ?_, ?_, ?_, ?_, ?_, ?_⟩ <;> first | trivial | omega
          rw [HT.out, HU.out]
          unfold padV
          rw [bytesI_len, ← HN.out, ← HPD.out, e, List.append_assoc (_ ++ List.replicate _ _), ← hb]
          rfl
    · have h56 : ¬ (u.size : Int) % 64 = 56 := by have := HPD.out; omega
      have HNU := Lib.hid hnu
      clear hul hnu
      go_wp2_with (fail)
      refine ⟨⟨_, k + 1, rfl, by omega, Lib.hid (by rw [bytesI_app, HU.out, List.replicate_succ', List.append_assoc (bytesI s ++ [128])]; rfl), HX⟩, ?_⟩
      show 2000000 - (u ++ (⟨#[0]⟩ : ByteArray)).size < 2000000 - u.size
      rw [HNU.out]
      omega
end Go.Proofs.Ytbeoihjfjkbfhaa

namespace Go.Proofs.Ytbeoihjfjkbfhaa
set_option linter.unusedVariables false
set_option linter.unusedSimpArgs false
open Go.RowKit
def lessL : List Int → List Int → Bool
  | x :: xs, y :: ys => if x = y then lessL xs ys else decide (x < y)
  | _, _ => false
def rowH (l : List Int) : Array Value := (l.map (Value.int .u8)).toArray
theorem rowH_at {l : List Int} {k : Nat} (h : k < l.length) : (rowH l)[k]? = some (.int .u8 l[k]) := by
  unfold rowH
  simp [h]
theorem lessL_drop {xs ys : List Int} {i : Nat} (h1 : i < xs.length) (h2 : i < ys.length) : lessL (xs.drop i) (ys.drop i) = if xs[i] = ys[i] then lessL (xs.drop (i + 1)) (ys.drop (i + 1)) else decide (xs[i] < ys[i]) := by
  rw [List.drop_eq_getElem_cons h1, List.drop_eq_getElem_cons h2, lessL]
set_option maxRecDepth 100000 in
set_option maxHeartbeats 4000000 in
theorem less_any (xs ys : List Int) (w : World) (hx : xs.length = 32) (hy : ys.length = 32) :
    Calls Try.prog 55 #[.agg (rowH xs), .agg (rowH ys)] w fun e w' => e = .returned (.bool (lessL xs ys)) ∧ Ext w w' := by
  go_enter Try.func55, Try.ntmps55
  go_upto_region 1 with (fail)
  obtain ⟨p, hp⟩ : ∃ p, p = w.heap.size := ⟨_, rfl⟩
  have hx2 : Ext w ((w.alloc (.cells (rowH xs) 78)).alloc (.cells (rowH ys) 78)) := Ext.alloc (Ext.alloc (Ext.refl _) _) _
  have ha : ((w.alloc (.cells (rowH xs) 78)).alloc (.cells (rowH ys) 78)).heap[p]? = some (.cells (rowH xs) 78) := by
    rw [((Ext.alloc (Ext.refl (w.alloc (.cells (rowH xs) 78))) (.cells (rowH ys) 78)).block p (Rg.lt_of_heap (by rw [hp]; exact alloc_at w _))), hp, alloc_at]
  have hb : ((w.alloc (.cells (rowH xs) 78)).alloc (.cells (rowH ys) 78)).heap[p + 1]? = some (.cells (rowH ys) 78) := by
    have := alloc_at (w.alloc (.cells (rowH xs) 78)) (.cells (rowH ys) 78)
    rw [show (w.alloc (.cells (rowH xs) 78)).heap.size = p + 1 by simp [hp]] at this
    exact this
  rw [← hp]
  generalize ((w.alloc (.cells (rowH xs) 78)).alloc (.cells (rowH ys) 78)) = W2 at *
  have HX2 := Lib.hid hx2; have HA := Lib.hid ha; have HB := Lib.hid hb; have HXL := Lib.hid hx; have HYL := Lib.hid hy
  clear hx2 ha hb hp hx hy
  go_wp2_with (fail)
  go_loopw [5] (fun k wr => ∃ i : Nat, k = .int .i64 i ∧ i ≤ 32 ∧ Hid (lessL xs ys = lessL (xs.drop i) (ys.drop i)) ∧ Hid (Ext W2 wr)) (fun k _ => 32 - (iof k).toNat)
  case atStart => exact ⟨0, rfl, by omega, Lib.hid rfl, Lib.hid (Ext.refl _)⟩
  case round =>
    obtain ⟨i, rfl, hi, HL, HX⟩ := hrel
    by_cases hi2 : i < 32
    · have h1 : i < xs.length := by rw [HXL.out]; exact hi2
      have h2 : i < ys.length := by rw [HYL.out]; exact hi2
      have HD := Lib.hid (HL.out.trans (lessL_drop h1 h2))
      have c1 : wr.cell? ⟨p, i, none⟩ = some (.int .u8 xs[i]) := by rw [cell_of_row _ _ _ _ _ _ ((HX.out.block _ (Rg.lt_of_heap HA.out)).trans HA.out)]; exact rowH_at h1
      have c2 : wr.cell? ⟨p + 1, i, none⟩ = some (.int .u8 ys[i]) := by rw [cell_of_row _ _ _ _ _ _ ((HX.out.block _ (Rg.lt_of_heap HB.out)).trans HB.out)]; exact rowH_at h2
      have l1 : p < wr.heap.size := Nat.lt_of_lt_of_le (Rg.lt_of_heap HA.out) HX.out.size
      have l2 : p + 1 < wr.heap.size := Nat.lt_of_lt_of_le (Rg.lt_of_heap HB.out) HX.out.size
      have hi3 : (i : Int) < 32 := by omega
      generalize xs[i] = a at *
      generalize ys[i] = b at *
      clear HL h1 h2
      go_upto_region 4 with (fail)
      refine Rr.wp_region [(0, .y), (1, .y), (2, .y), (3, .y), (4, .y), (5, .y)] (fun _ => (.cells #[] 29, Rg.ptr)) (by kernel_rfl) (by kernel_rfl) ?_
      (refine Rr.wr_y (by simp only [List.getElem?_toArray, List.getElem?_cons_succ, List.getElem?_cons_zero]; rfl) (by rfl) ?_
       apply Exists.intro
       refine ⟨fun wz hw _ => ?_, ?_⟩
       · have hcz := hw.cells.1
         go_simp
         (with_reducible exact Rg.up_value)
       simp only [Act.put, List.setIfInBounds_toArray, List.set_cons_zero, List.set_cons_succ])
      (refine Rr.wr_y (by simp only [List.getElem?_toArray, List.getElem?_cons_succ, List.getElem?_cons_zero]; rfl) (by rfl) ?_
       apply Exists.intro
       refine ⟨fun wz hw _ => ?_, ?_⟩
       · have hcz := hw.cells.1
         go_simp
         (with_reducible exact Rg.up_value)
       simp only [Act.put, List.setIfInBounds_toArray, List.set_cons_zero, List.set_cons_succ])
      (refine Rr.wr_y (by simp only [List.getElem?_toArray, List.getElem?_cons_succ, List.getElem?_cons_zero]; rfl) (by rfl) ?_
       apply Exists.intro
       refine ⟨fun wz hw _ => ?_, ?_⟩
       · have hcz := hw.cells.1
         go_simp
         (with_reducible exact Rg.up_value)
       simp only [Act.put, List.setIfInBounds_toArray, List.set_cons_zero, List.set_cons_succ])
      (refine Rr.wr_y (by simp only [List.getElem?_toArray, List.getElem?_cons_succ, List.getElem?_cons_zero]; rfl) (by rfl) ?_
       apply Exists.intro
       refine ⟨fun wz hw _ => ?_, ?_⟩
       · have hcz := hw.cells.1
         go_simp
         (with_reducible exact Rg.up_value)
       simp only [Act.put, List.setIfInBounds_toArray, List.set_cons_zero, List.set_cons_succ])
      (refine Rr.wr_y (by simp only [List.getElem?_toArray, List.getElem?_cons_succ, List.getElem?_cons_zero]; rfl) (by rfl) ?_
       apply Exists.intro
       refine ⟨fun wz hw _ => ?_, ?_⟩
       · have hcz := hw.cells.1
         go_simp
         (with_reducible exact Rg.up_value)
       simp only [Act.put, List.setIfInBounds_toArray, List.set_cons_zero, List.set_cons_succ])
      (refine Rr.wr_y (by simp only [List.getElem?_toArray, List.getElem?_cons_succ, List.getElem?_cons_zero]; rfl) (by rfl) ?_
       apply Exists.intro
       refine ⟨fun wz hw _ => ?_, ?_⟩
       · have hcz := hw.cells.1
         go_simp
         (with_reducible exact Rg.up_value)
       simp only [Act.put, List.setIfInBounds_toArray, List.set_cons_zero, List.set_cons_succ])
      refine Rr.wr_nil ?_
      intro wy hy2 hh
      clear hh
      simp only [List.length_cons, List.length_nil, List.drop_succ_cons, List.drop_zero, Nat.reduceAdd]
      have e1 := (hy2.cells.1 _ _ l1).trans c1
      have e2 := (hy2.cells.1 _ _ l2).trans c2
      have m1 : p < wy.heap.size := Nat.lt_of_lt_of_le l1 hy2.size
      have m2 : p + 1 < wy.heap.size := Nat.lt_of_lt_of_le l2 hy2.size
      have HXY := Lib.hid (HX.out.trans hy2)
      clear hy2 c1 c2 l1 l2 HX
      by_cases hab : a = b
      · rw [if_pos hab] at HD
        subst hab
        go_wp2_with (fail)
        exact ⟨⟨i + 1, by simp, by omega, HD, HXY⟩, by simp [iof]; omega⟩
      · rw [if_neg hab] at HD
        go_upto_region 5 with (fail)
        refine Rr.wp_region [(0, .y), (1, .y), (2, .y), (3, .y), (4, .y), (5, .y), (6, .y)] (fun _ => (.cells #[] 29, Rg.ptr)) (by kernel_rfl) (by kernel_rfl) ?_
        (refine Rr.wr_y (by simp only [List.getElem?_toArray, List.getElem?_cons_succ, List.getElem?_cons_zero]; rfl) (by rfl) ?_
         apply Exists.intro
         refine ⟨fun wz hw _ => ?_, ?_⟩
         · have hcz := hw.cells.1
           go_simp
           (with_reducible exact Rg.up_value)
         simp only [Act.put, List.setIfInBounds_toArray, List.set_cons_zero, List.set_cons_succ])
        (refine Rr.wr_y (by simp only [List.getElem?_toArray, List.getElem?_cons_succ, List.getElem?_cons_zero]; rfl) (by rfl) ?_
         apply Exists.intro
         refine ⟨fun wz hw _ => ?_, ?_⟩
         · have hcz := hw.cells.1
           go_simp
           (with_reducible exact Rg.up_value)
         simp only [Act.put, List.setIfInBounds_toArray, List.set_cons_zero, List.set_cons_succ])
        (refine Rr.wr_y (by simp only [List.getElem?_toArray, List.getElem?_cons_succ, List.getElem?_cons_zero]; rfl) (by rfl) ?_
         apply Exists.intro
         refine ⟨fun wz hw _ => ?_, ?_⟩
         · have hcz := hw.cells.1
           go_simp
           (with_reducible exact Rg.up_value)
         simp only [Act.put, List.setIfInBounds_toArray, List.set_cons_zero, List.set_cons_succ])
        (refine Rr.wr_y (by simp only [List.getElem?_toArray, List.getElem?_cons_succ, List.getElem?_cons_zero]; rfl) (by rfl) ?_
         apply Exists.intro
         refine ⟨fun wz hw _ => ?_, ?_⟩
         · have hcz := hw.cells.1
           go_simp
           (with_reducible exact Rg.up_value)
         simp only [Act.put, List.setIfInBounds_toArray, List.set_cons_zero, List.set_cons_succ])
        (refine Rr.wr_y (by simp only [List.getElem?_toArray, List.getElem?_cons_succ, List.getElem?_cons_zero]; rfl) (by rfl) ?_
         apply Exists.intro
         refine ⟨fun wz hw _ => ?_, ?_⟩
         · have hcz := hw.cells.1
           go_simp
           (with_reducible exact Rg.up_value)
         simp only [Act.put, List.setIfInBounds_toArray, List.set_cons_zero, List.set_cons_succ])
        (refine Rr.wr_y (by simp only [List.getElem?_toArray, List.getElem?_cons_succ, List.getElem?_cons_zero]; rfl) (by rfl) ?_
         apply Exists.intro
         refine ⟨fun wz hw _ => ?_, ?_⟩
         · have hcz := hw.cells.1
           go_simp
           (with_reducible exact Rg.up_value)
         simp only [Act.put, List.setIfInBounds_toArray, List.set_cons_zero, List.set_cons_succ])
        (refine Rr.wr_y (by simp only [List.getElem?_toArray, List.getElem?_cons_succ, List.getElem?_cons_zero]; rfl) (by rfl) ?_
         apply Exists.intro
         refine ⟨fun wz hw _ => ?_, ?_⟩
         · have hcz := hw.cells.1
           go_simp
           (with_reducible exact Rg.up_value)
         simp only [Act.put, List.setIfInBounds_toArray, List.set_cons_zero, List.set_cons_succ])
        refine Rr.wr_nil ?_
        intro wz hz hh
        clear hh
        simp only [List.length_cons, List.length_nil, List.drop_succ_cons, List.drop_zero, Nat.reduceAdd]
        have HXZ := Lib.hid (HX2.out.trans (HXY.out.trans hz))
        clear hz e1 e2 m1 m2
        go_wp2_with (fail)
        go_ret
        exact ⟨by rw [HD.out]; rfl, HXZ.out⟩
    · obtain rfl : i = 32 := by omega
      go_wp2_with (fail)
      go_ret
      refine ⟨?_, HX2.out.trans HX.out⟩
      rw [HL.out, List.drop_eq_nil_of_le (by rw [HXL.out]; exact Nat.le_refl _)]
      rfl
end Go.Proofs.Ytbeoihjfjkbfhaa
