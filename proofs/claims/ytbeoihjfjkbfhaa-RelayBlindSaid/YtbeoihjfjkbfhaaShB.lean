/-
  The words of a block.
-/
import Derived.Test.YtbeoihjfjkbfhaaShA
import Derived.Test.YtbeoihjfjkbfhaaRwS
namespace Go.Proofs.Ytbeoihjfjkbfhaa
set_option linter.unusedVariables false
set_option linter.unusedSimpArgs false
open Go.RowKit

def sigS (x : Int) : Int := xor32 (xor32 (rotr x 7) (rotr x 18)) (x / 8)
def sigT (x : Int) : Int := xor32 (xor32 (rotr x 17) (rotr x 19)) (x / 1024)
def nextW (bs l : List Int) (i : Nat) : Int :=
  if i < 16 then wordE (bs.getD (4 * i) 0) (bs.getD (4 * i + 1) 0) (bs.getD (4 * i + 2) 0) (bs.getD (4 * i + 3) 0)
  else (l.getD (i - 16) 0 + sigS (l.getD (i - 15) 0) + l.getD (i - 7) 0 + sigT (l.getD (i - 2) 0)) % 4294967296
/-- The first n words of a block. -/
def sched (bs : List Int) : Nat → List Int
  | 0 => []
  | n + 1 => sched bs n ++ [nextW bs (sched bs n) n]
theorem sched_len (bs : List Int) (n : Nat) : (sched bs n).length = n := by
  induction n with
  | zero => rfl
  | succ n ih => simp [sched, ih]
/-- A row of 64 words of which the first are these. -/
def rowW (l : List Int) : Array Value := (l.map (Value.int .u32) ++ List.replicate (64 - l.length) (Value.int .u32 0)).toArray
theorem rowW_get {l : List Int} {k : Nat} (h : k < l.length) : (rowW l)[k]? = some (.int .u32 (l.getD k 0)) := by
  unfold rowW
  rw [List.getElem?_toArray, List.getElem?_append_left (by simpa using h)]
  simp [h]
theorem rowW_set {l : List Int} (x : Int) (h : l.length < 64) : (rowW l).setIfInBounds l.length (.int .u32 x) = rowW (l ++ [x]) := by
  unfold rowW
  rw [List.setIfInBounds_toArray, List.set_append_right _ _ (by simp), show 64 - l.length = (64 - (l ++ [x]).length) + 1 by simp; omega, List.replicate_succ]
  simp
theorem rowW_size {l : List Int} (h : l.length ≤ 64) : (rowW l).size = 64 := by simp [rowW]; omega
theorem rowW_one (l : List Int) : ∀ v ∈ (rowW l).toList, v.oneCell' = true := by
  intro v hv
  simp only [rowW, List.mem_append, List.mem_map, List.mem_replicate] at hv
  rcases hv with ⟨x, -, rfl⟩ | ⟨-, rfl⟩ <;> rfl
set_option maxRecDepth 100000 in
set_option maxHeartbeats 4000000 in
theorem sched_any (b off len cap : Nat) (bs : List Int) (w : World) (h4 : 64 ≤ len) (h5 : 64 ≤ cap) (hb : b < w.heap.size) (hl : bs.length = 64) (h0 : ∀ k (h : k < bs.length), 0 ≤ bs[k] ∧ bs[k] < 256)
    (hc : ∀ k (h : k < bs.length), w.cell? ⟨b, off + k, none⟩ = some (.int .u8 bs[k])) :
    Calls Try.prog 67 #[.slice (some ⟨b, off, none⟩) len cap] w fun e w' => e = .returned (.agg (rowW (sched bs 64))) ∧ Ext w w' := by
  go_enter Try.func67, Try.ntmps67
  go_upto_region 2 with (fail)
  change Code.wp _ _ _ _ ((w.alloc (.cells (rowW []) 109)).alloc (.cells (rowW []) 109))
  obtain ⟨p, hp⟩ : ∃ p, p = w.heap.size := ⟨_, rfl⟩
  have hx1 : Ext w ((w.alloc (.cells (rowW []) 109)).alloc (.cells (rowW []) 109)) := Ext.alloc (Ext.alloc (Ext.refl _) _) _
  have hq : ((w.alloc (.cells (rowW []) 109)).alloc (.cells (rowW []) 109)).heap[p]? = some (.cells (rowW []) 109) := by
    rw [hp, alloc_old _ (by simp), alloc_at]
  have hr : ((w.alloc (.cells (rowW []) 109)).alloc (.cells (rowW []) 109)).heap[p + 1]? = some (.cells (rowW []) 109) := by
    have := alloc_at (w.alloc (.cells (rowW []) 109)) (.cells (rowW []) 109)
    rw [hp]
    simpa using this
  generalize ((w.alloc (.cells (rowW []) 109)).alloc (.cells (rowW []) 109)) = W1 at *
  rw [← hp]
  have HP := Lib.hid hp
  clear hp
  go_wp2_with (fail)
  go_loopw [9] (fun k wr => ∃ i : Nat, k = .int .i64 i ∧ i ≤ 64 ∧ Hid (wr.heap[p + 1]? = some (.cells (rowW (sched bs i)) 109)) ∧ Hid (wr.heap[p]? = some (.cells (rowW []) 109)) ∧ Ext w wr) (fun k _ => 64 - (iof k).toNat)
  case atStart => exact ⟨0, rfl, by omega, Lib.hid hr, Lib.hid hq, hx1⟩
  case round =>
    obtain ⟨i, rfl, hi, HR, HQ, hx⟩ := hrel
    by_cases hi64 : i < 64
    · by_cases hi16 : i < 16
      · have HN : Hid (nextW bs (sched bs i) i = wordE (bs[4 * i]'(by omega)) (bs[4 * i + 1]'(by omega)) (bs[4 * i + 2]'(by omega)) (bs[4 * i + 3]'(by omega))) := Lib.hid (by
          unfold nextW
          rw [if_pos hi16]
          simp [List.getD_eq_getElem?_getD, show 4 * i < bs.length by omega, show 4 * i + 1 < bs.length by omega, show 4 * i + 2 < bs.length by omega, show 4 * i + 3 < bs.length by omega])
        have HC : Hid (Calls Try.prog 78 #[.slice (some ⟨b, off + 4 * i, none⟩) (len - 4 * i) (cap - 4 * i)] wr fun e w' => e = .returned (.int .u32 (nextW bs (sched bs i) i)) ∧ ∃ k, w' = wr.drewN k) := Lib.hid (by
          rw [HN.out]
          have cc : ∀ k (h : k < bs.length), wr.cell? ⟨b, off + k, none⟩ = some (.int .u8 bs[k]) := fun k h => (hx.cells.1 _ _ hb).trans (hc k h)
          have c0 := cc (4 * i) (by omega); have c1 := cc (4 * i + 1) (by omega); have c2 := cc (4 * i + 2) (by omega); have c3 := cc (4 * i + 3) (by omega)
          exact word_any b (off + 4 * i) (len - 4 * i) (cap - 4 * i) _ _ _ _ wr (by omega) (h0 _ _) (h0 _ _) (h0 _ _) (h0 _ _) c0 c1 c2 c3)
        have HS := Lib.hid (sched_len bs i)
        have HY : Hid (sched bs (i + 1) = sched bs i ++ [nextW bs (sched bs i) i]) := Lib.hid rfl
        generalize nextW bs (sched bs i) i = x at *
        generalize sched bs i = l at *
        have hp1 := Rg.lt_of_heap HR.out
        have cr := cell_of_row wr (p + 1) i _ _ _ HR.out
        have hlw := HS.out
        obtain ⟨z, hz⟩ : ∃ z, (rowW l)[i]? = some z := ⟨_, Array.getElem?_eq_getElem (by rw [rowW_size (by omega)]; exact hi64)⟩
        rw [hz] at cr
        have hcap : 4 * i < cap := by omega
        clear hlw
        have fr : wr.frozen? ⟨p + 1, i, none⟩ = false := (Rg.cells_of HR.out).2.1 _
        go_wp2_with (go_at_call 78; (with_reducible refine (HC.out).mono ?_); rintro e w2 ⟨rfl, k, rfl⟩)
        have HR2 := heap_setCell_row (w := wr.drewN k) (o := i) (.int .u32 x) HR.out
        have e1 : (rowW l).setIfInBounds i (.int .u32 x) = rowW (l ++ [x]) := by
          have := rowW_set x (l := l) (by rw [HS.out]; exact hi64)
          rwa [HS.out] at this
        rw [e1] at HR2
        exact ⟨⟨i + 1, by simp, by omega, Lib.hid (by rw [HY.out]; exact HR2), Lib.hid ((heap_setCell_other _ (by omega)).trans HQ.out), Below.setCell (hx.drewN k) (by have := HP.out; simp; omega) _⟩, by simp [iof]; omega⟩
      · have hgd : ∀ k (h : k < (sched bs i).length), wr.cell? ⟨p + 1, k, none⟩ = some (.int .u32 ((sched bs i).getD k 0)) := fun k h => by
          rw [cell_of_row wr (p + 1) k _ _ _ HR.out, rowW_get h]
        have HN : Hid (nextW bs (sched bs i) i = ((sched bs i).getD (i - 16) 0 + sigS ((sched bs i).getD (i - 15) 0) + (sched bs i).getD (i - 7) 0 + sigT ((sched bs i).getD (i - 2) 0)) % 4294967296) := Lib.hid (by
          unfold nextW
          rw [if_neg (by omega)])
        have HS := Lib.hid (sched_len bs i)
        have HY : Hid (sched bs (i + 1) = sched bs i ++ [nextW bs (sched bs i) i]) := Lib.hid rfl
        generalize nextW bs (sched bs i) i = x at *
        generalize sched bs i = l at *
        have hlw := HS.out
        have c0 := hgd (i - 16) (by omega); have c1 := hgd (i - 15) (by omega); have c9 := hgd (i - 7) (by omega); have c14 := hgd (i - 2) (by omega)
        generalize l.getD (i - 16) 0 = y0 at *; generalize l.getD (i - 15) 0 = y1 at *; generalize l.getD (i - 7) 0 = y9 at *; generalize l.getD (i - 2) 0 = y14 at *
        have hp1 := Rg.lt_of_heap HR.out
        have cr := cell_of_row wr (p + 1) i _ _ _ HR.out
        obtain ⟨z, hz⟩ : ∃ z, (rowW l)[i]? = some z := ⟨_, Array.getElem?_eq_getElem (by rw [rowW_size (by omega)]; exact hi64)⟩
        rw [hz] at cr
        have fr : wr.frozen? ⟨p + 1, i, none⟩ = false := (Rg.cells_of HR.out).2.1 _
        clear hlw hgd
        have H7 := Lib.hid (rotl_at y1 (-7) 7 (by decide)); have H18 := Lib.hid (rotl_at y1 (-18) 18 (by decide))
        have H17 := Lib.hid (rotl_at y14 (-17) 17 (by decide)); have H19 := Lib.hid (rotl_at y14 (-19) 19 (by decide))
        unfold sigS sigT xor32 at HN
        generalize rotr y1 7 = r7 at *; generalize rotr y1 18 = r18 at *; generalize rotr y14 17 = r17 at *; generalize rotr y14 19 = r19 at *
        go_upto_region 7 with (fail)
        go_quiet (fail)
        go_upto_region 10 with (go_at_call 79; (with_reducible first | refine (H7.out _).mono ?_ | refine (H18.out _).mono ?_ | refine (H17.out _).mono ?_ | refine (H19.out _).mono ?_); rintro e w2 ⟨rfl, hw2⟩; have h9 := hw2.symm; clear hw2; subst h9)
        generalize bits BinOp.xor IntKind.u32 (bits BinOp.xor IntKind.u32 r7 r18) (y1 / 8) = sx at *
        generalize bits BinOp.xor IntKind.u32 (bits BinOp.xor IntKind.u32 r17 r19) (y14 / 1024) = tx at *
        have t3 : IntKind.i64.wrap ((i : Int) - 16) = ((i - 16 : Nat) : Int) := by rw [IntKind.wrap_i64]; omega
        have t4 : IntKind.i64.wrap ((i : Int) - 7) = ((i - 7 : Nat) : Int) := by rw [IntKind.wrap_i64]; omega
        have t5 : ((i - 16 : Nat) : Int) < 64 := by omega
        have t6 : ((i - 7 : Nat) : Int) < 64 := by omega
        have d0 : (wr.drewN nq).cell? ⟨p + 1, i - 16, none⟩ = some (.int .u32 y0) := c0
        have d9 : (wr.drewN nq).cell? ⟨p + 1, i - 7, none⟩ = some (.int .u32 y9) := c9
        have dr : (wr.drewN nq).cell? ⟨p + 1, i, none⟩ = some z := cr
        have df : (wr.drewN nq).frozen? ⟨p + 1, i, none⟩ = false := fr
        have dp : p + 1 < (wr.drewN nq).heap.size := hp1
        have DX : Hid (Ext w (wr.drewN nq)) := Lib.hid (hx.drewN nq)
        have DR : Hid ((wr.drewN nq).heap[p + 1]? = some (.cells (rowW l) 109)) := Lib.hid HR.out
        have DQ : Hid ((wr.drewN nq).heap[p]? = some (.cells (rowW []) 109)) := Lib.hid HQ.out
        clear c0 c9 cr fr hp1 c1 c14
        generalize wr.drewN nq = W2 at *
        refine Rr.wp_region [(0, .y), (1, .y), (2, .y), (3, .y), (4, .y), (5, .y), (6, .y), (7, .y), (8, .y), (9, .y), (10, .y), (11, .y), (12, .y), (13, .y), (14, .y)] (fun _ => (.cells #[] 29, Rg.ptr)) (by kernel_rfl) (by kernel_rfl) ?_
        (refine Rr.wr_y (by simp only [List.getElem?_toArray, List.getElem?_cons_succ, List.getElem?_cons_zero]; rfl) (by rfl) ?_
         apply Exists.intro
         refine ⟨fun wz hw _ => ?_, ?_⟩
         · have hcz := hw.cells.1
           go_simp
           (with_reducible exact Rg.up_value)
         simp only [Act.put, List.setIfInBounds_toArray, List.set_cons_zero, List.set_cons_succ])
        (refine Rr.wr_y (by simp only [List.getElem?_toArray, List.getElem?_cons_succ, List.getElem?_cons_zero]; rfl) (by rfl) ?_
         apply Exists.intro
         refine ⟨fun wz hw _ => ?_, ?_⟩
         · have hcz := hw.cells.1
           go_simp
           (with_reducible exact Rg.up_value)
         simp only [Act.put, List.setIfInBounds_toArray, List.set_cons_zero, List.set_cons_succ])
        (refine Rr.wr_y (by simp only [List.getElem?_toArray, List.getElem?_cons_succ, List.getElem?_cons_zero]; rfl) (by rfl) ?_
         apply Exists.intro
         refine ⟨fun wz hw _ => ?_, ?_⟩
         · have hcz := hw.cells.1
           go_simp
           (with_reducible exact Rg.up_value)
         simp only [Act.put, List.setIfInBounds_toArray, List.set_cons_zero, List.set_cons_succ])
        (refine Rr.wr_y (by simp only [List.getElem?_toArray, List.getElem?_cons_succ, List.getElem?_cons_zero]; rfl) (by rfl) ?_
         apply Exists.intro
         refine ⟨fun wz hw _ => ?_, ?_⟩
         · have hcz := hw.cells.1
           go_simp
           (with_reducible exact Rg.up_value)
         simp only [Act.put, List.setIfInBounds_toArray, List.set_cons_zero, List.set_cons_succ])
        (refine Rr.wr_y (by simp only [List.getElem?_toArray, List.getElem?_cons_succ, List.getElem?_cons_zero]; rfl) (by rfl) ?_
         apply Exists.intro
         refine ⟨fun wz hw _ => ?_, ?_⟩
         · have hcz := hw.cells.1
           go_simp
           (with_reducible exact Rg.up_value)
         simp only [Act.put, List.setIfInBounds_toArray, List.set_cons_zero, List.set_cons_succ])
        (refine Rr.wr_y (by simp only [List.getElem?_toArray, List.getElem?_cons_succ, List.getElem?_cons_zero]; rfl) (by rfl) ?_
         apply Exists.intro
         refine ⟨fun wz hw _ => ?_, ?_⟩
         · have hcz := hw.cells.1
           go_simp
           (with_reducible exact Rg.up_value)
         simp only [Act.put, List.setIfInBounds_toArray, List.set_cons_zero, List.set_cons_succ])
        (refine Rr.wr_y (by simp only [List.getElem?_toArray, List.getElem?_cons_succ, List.getElem?_cons_zero]; rfl) (by rfl) ?_
         apply Exists.intro
         refine ⟨fun wz hw _ => ?_, ?_⟩
         · have hcz := hw.cells.1
           go_simp
           (with_reducible exact Rg.up_value)
         simp only [Act.put, List.setIfInBounds_toArray, List.set_cons_zero, List.set_cons_succ])
        (refine Rr.wr_y (by simp only [List.getElem?_toArray, List.getElem?_cons_succ, List.getElem?_cons_zero]; rfl) (by rfl) ?_
         apply Exists.intro
         refine ⟨fun wz hw _ => ?_, ?_⟩
         · have hcz := hw.cells.1
           go_simp
           (with_reducible exact Rg.up_value)
         simp only [Act.put, List.setIfInBounds_toArray, List.set_cons_zero, List.set_cons_succ])
        (refine Rr.wr_y (by simp only [List.getElem?_toArray, List.getElem?_cons_succ, List.getElem?_cons_zero]; rfl) (by rfl) ?_
         apply Exists.intro
         refine ⟨fun wz hw _ => ?_, ?_⟩
         · have hcz := hw.cells.1
           go_simp
           (with_reducible exact Rg.up_value)
         simp only [Act.put, List.setIfInBounds_toArray, List.set_cons_zero, List.set_cons_succ])
        (refine Rr.wr_y (by simp only [List.getElem?_toArray, List.getElem?_cons_succ, List.getElem?_cons_zero]; rfl) (by rfl) ?_
         apply Exists.intro
         refine ⟨fun wz hw _ => ?_, ?_⟩
         · have hcz := hw.cells.1
           go_simp
           (with_reducible exact Rg.up_value)
         simp only [Act.put, List.setIfInBounds_toArray, List.set_cons_zero, List.set_cons_succ])
        (refine Rr.wr_y (by simp only [List.getElem?_toArray, List.getElem?_cons_succ, List.getElem?_cons_zero]; rfl) (by rfl) ?_
         apply Exists.intro
         refine ⟨fun wz hw _ => ?_, ?_⟩
         · have hcz := hw.cells.1
           go_simp
           (with_reducible exact Rg.up_value)
         simp only [Act.put, List.setIfInBounds_toArray, List.set_cons_zero, List.set_cons_succ])
        (refine Rr.wr_y (by simp only [List.getElem?_toArray, List.getElem?_cons_succ, List.getElem?_cons_zero]; rfl) (by rfl) ?_
         apply Exists.intro
         refine ⟨fun wz hw _ => ?_, ?_⟩
         · have hcz := hw.cells.1
           go_simp
           (with_reducible exact Rg.up_value)
         simp only [Act.put, List.setIfInBounds_toArray, List.set_cons_zero, List.set_cons_succ])
        (refine Rr.wr_y (by simp only [List.getElem?_toArray, List.getElem?_cons_succ, List.getElem?_cons_zero]; rfl) (by rfl) ?_
         apply Exists.intro
         refine ⟨fun wz hw _ => ?_, ?_⟩
         · have hcz := hw.cells.1
           go_simp
           (with_reducible exact Rg.up_value)
         simp only [Act.put, List.setIfInBounds_toArray, List.set_cons_zero, List.set_cons_succ])
        (refine Rr.wr_y (by simp only [List.getElem?_toArray, List.getElem?_cons_succ, List.getElem?_cons_zero]; rfl) (by rfl) ?_
         apply Exists.intro
         refine ⟨fun wz hw _ => ?_, ?_⟩
         · have hcz := hw.cells.1
           go_simp
           (with_reducible exact Rg.up_value)
         simp only [Act.put, List.setIfInBounds_toArray, List.set_cons_zero, List.set_cons_succ])
        (refine Rr.wr_y (by simp only [List.getElem?_toArray, List.getElem?_cons_succ, List.getElem?_cons_zero]; rfl) (by rfl) ?_
         apply Exists.intro
         refine ⟨fun wz hw _ => ?_, ?_⟩
         · have hcz := hw.cells.1
           go_simp
           (with_reducible exact Rg.up_value)
         simp only [Act.put, List.setIfInBounds_toArray, List.set_cons_zero, List.set_cons_succ])
        refine Rr.wr_nil ?_
        intro wy hy hh
        simp only [List.length_cons, List.length_nil, List.drop_succ_cons, List.drop_zero, Nat.reduceAdd]
        have dr' : wy.cell? ⟨p + 1, i, none⟩ = some z := (hy.cells.1 _ _ dp).trans dr
        have df' : wy.frozen? ⟨p + 1, i, none⟩ = false := (hy.cells.2 _ _ dp).trans df
        go_wp2_with (fail)
        rw [← HN.out]
        have HR2 := heap_setCell_row (w := wy) (o := i) (.int .u32 x) ((hy.block _ (Rg.lt_of_heap DR.out)).trans DR.out)
        have e1 : (rowW l).setIfInBounds i (.int .u32 x) = rowW (l ++ [x]) := by
          have := rowW_set x (l := l) (by rw [HS.out]; exact hi64)
          rwa [HS.out] at this
        rw [e1] at HR2
        exact ⟨⟨i + 1, by simp, by omega, Lib.hid (by rw [HY.out]; exact HR2), Lib.hid ((heap_setCell_other _ (by omega)).trans ((hy.block _ (Rg.lt_of_heap DQ.out)).trans DQ.out)), Below.setCell (DX.out.trans hy) (by have := HP.out; simp; omega) _⟩, by simp [iof]; omega⟩
    · obtain rfl : i = 64 := by omega
      have hsz : (rowW (sched bs 64)).size = 64 := rowW_size (by rw [sched_len]; omega)
      have ho := rowW_one (sched bs 64)
      obtain ⟨R, hRe⟩ : ∃ R, R = rowW (sched bs 64) := ⟨_, rfl⟩
      rw [← hRe] at HR hsz ho
      have HE := Lib.hid hRe
      clear hRe
      go_wp2_with (first
        | (refine wpList_load_row (hgd := rfl) 109 (.tmp 3) rfl (p + 1) (by rfl) 109 _ _ _ HR.out Try.underlying109 rfl (by rw [hsz]; kernel_rfl) ?_)
        | (refine wpList_store_row (hgd := rfl) 109 (.tmp 2) (.tmp 61) rfl p (by rfl) R (by rfl) _ 109 HQ.out (by rw [hsz]; rfl) (by rw [hsz]; kernel_rfl) ho ?_))
      refine bodyPost_ret (v := .agg R) (results_cell_row Try.results67 _ _ p 109 _ _ _ (by rfl) (setRow_heap _ _ _ _ _ _ HQ.out) Try.underlying109 rfl (by rw [hsz]; kernel_rfl)) rfl ⟨by rw [HE.out], below_setRow hx (by have := HP.out; omega) _⟩
end Go.Proofs.Ytbeoihjfjkbfhaa
