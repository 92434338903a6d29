/-
  relay.shuffled's comparison: it is cmpT. Condition: both texts have at most 4000 bytes.
-/
import Derived.Test.YtbeoihjfjkbfhaaShT
namespace Go.Proofs.Ytbeoihjfjkbfhaa
set_option linter.unusedVariables false
set_option linter.unusedSimpArgs false
open Go.RowKit Go.Sort
theorem rowB_cell {w : World} {p : Nat} {A : List Int} {t : TypeId} {fr : Nat × Nat} (h : w.heap[p]? = some (.cells (A.map (Value.int .u8)).toArray t fr)) : ∀ j x, A[j]? = some x → w.cell? ((⟨p, 0, none⟩ : Addr).add j) = some (.int .u8 x) := by
  intro j x hj
  rw [show (⟨p, 0, none⟩ : Addr).add j = ⟨p, j, none⟩ from by unfold Addr.add; split <;> simp_all]
  refine (cell_of_row _ _ j _ _ _ h).trans ?_
  simp [hj]
theorem cmpB_in (a b : List UInt8) : -9223372036854775808 ≤ Lib.compareBytes a b ∧ Lib.compareBytes a b ≤ 9223372036854775807 := by
  have h : Lib.compareBytes a b = -1 ∨ Lib.compareBytes a b = 0 ∨ Lib.compareBytes a b = 1 := by
    induction a generalizing b with
    | nil => cases b <;> simp [Lib.compareBytes]
    | cons x a ih =>
      cases b with
      | nil => simp [Lib.compareBytes]
      | cons y b =>
        simp only [Lib.compareBytes]
        by_cases h1 : x < y
        · simp [h1]
        · by_cases h2 : y < x
          · simp [h1, h2]
          · simpa [h1, h2] using ih b
  omega
set_option maxRecDepth 100000 in
set_option maxHeartbeats 4000000 in
theorem cmpT_any (a b : ByteArray) (w : World) (ha : a.size ≤ 4000) (hb : b.size ≤ 4000) :
    Calls Try.prog 39 #[.string a, .string b] w fun e w' => e = .returned (.int .i64 (cmpT a b)) ∧ Ext w w' := by
  have HC : Hid (cmpT a b = orF [Lib.compareBytes (Lib.bytesOf (sumV (bytesI a))) (Lib.bytesOf (sumV (bytesI b))), Lib.compareBytes a.data.toList b.data.toList]) := Lib.hid rfl
  have HA := Lib.hid (fun w => sum_any a w ha); have HB := Lib.hid (fun w => sum_any b w hb)
  have la := sumV_len (bytesI a); have lb := sumV_len (bytesI b)
  generalize sumV (bytesI a) = A at *
  generalize sumV (bytesI b) = B at *
  generalize cmpT a b = R at *
  have HS := Lib.hid (strCmp_any a b)
  have k2 := cmpB_in a.data.toList b.data.toList
  generalize Lib.compareBytes a.data.toList b.data.toList = c2 at *
  have sa : (A.map (Value.int .u8)).toArray.size = 32 := by simpa using la
  have sb : (B.map (Value.int .u8)).toArray.size = 32 := by simpa using lb
  have oa : ∀ v ∈ ((A.map (Value.int .u8)).toArray).toList, v.oneCell' = true := by
    intro v hv
    obtain ⟨y, -, rfl⟩ := List.mem_map.1 hv
    rfl
  have ob : ∀ v ∈ ((B.map (Value.int .u8)).toArray).toList, v.oneCell' = true := by
    intro v hv
    obtain ⟨y, -, rfl⟩ := List.mem_map.1 hv
    rfl
  obtain ⟨RA, hRA⟩ : ∃ RA, RA = (A.map (Value.int .u8)).toArray := ⟨_, rfl⟩
  obtain ⟨RB, hRB⟩ : ∃ RB, RB = (B.map (Value.int .u8)).toArray := ⟨_, rfl⟩
  rw [← hRA] at HA sa oa
  rw [← hRB] at HB sb ob
  have HRA := Lib.hid hRA; have HRB := Lib.hid hRB
  have LA := Lib.hid la; have LB := Lib.hid lb
  clear hRA hRB la lb ha hb
  go_enter Try.func39, Try.ntmps39
  go_upto_region 2 with (first
    | (go_at_call 40; (with_reducible refine (HA.out _).mono ?_); rintro e w1 ⟨rfl, hx1⟩)
    | (go_at_call 40; (with_reducible refine (HB.out _).mono ?_); rintro e w2 ⟨rfl, hx2⟩)
    | (refine wpList_store_row (hgd := rfl) 78 (.tmp 5) (.tmp 8) rfl w2.heap.size (by rfl) RA (by rfl) (rowB []) 78 (two_blocks _ _ _).1 (by rw [sa]; rfl) (by rw [sa]; kernel_rfl) oa ?_)
    | (refine wpList_store_row (hgd := rfl) 78 (.tmp 6) (.tmp 10) rfl (w2.heap.size + 1) (by rfl) RB (by rfl) (rowB []) 78 ((setRow_other _ _ _ _ (by omega)).trans (two_blocks _ _ _).2) (by rw [sb]; rfl) (by rw [sb]; kernel_rfl) ob ?_))
  change Code.wp _ _ _ _ ((((w2.alloc (.cells (rowB []) 78)).alloc (.cells (rowB []) 78)).setRow w2.heap.size RA).setRow (w2.heap.size + 1) RB)
  have hX : Ext w ((((w2.alloc (.cells (rowB []) 78)).alloc (.cells (rowB []) 78)).setRow w2.heap.size RA).setRow (w2.heap.size + 1) RB) := by
    have h12 := hx1.size; have h22 := hx2.size
    exact below_setRow (below_setRow (Ext.alloc (Ext.alloc (hx1.trans hx2) _) _) (by omega) _) (by omega) _
  have hP : ((((w2.alloc (.cells (rowB []) 78)).alloc (.cells (rowB []) 78)).setRow w2.heap.size RA).setRow (w2.heap.size + 1) RB).heap[w2.heap.size]? = some (.cells RA 78) :=
    (setRow_other _ _ _ _ (by omega)).trans (setRow_heap _ _ _ _ _ _ (two_blocks _ _ _).1)
  have hQ : ((((w2.alloc (.cells (rowB []) 78)).alloc (.cells (rowB []) 78)).setRow w2.heap.size RA).setRow (w2.heap.size + 1) RB).heap[w2.heap.size + 1]? = some (.cells RB 78) :=
    setRow_heap _ _ _ _ _ _ ((setRow_other _ _ _ _ (by omega)).trans (two_blocks _ _ _).2)
  generalize ((((w2.alloc (.cells (rowB []) 78)).alloc (.cells (rowB []) 78)).setRow w2.heap.size RA).setRow (w2.heap.size + 1) RB) = W at *
  obtain ⟨p, hp⟩ : ∃ p, p = w2.heap.size := ⟨_, rfl⟩
  obtain ⟨q, hq⟩ : ∃ q, q = w2.heap.size + 1 := ⟨_, rfl⟩
  rw [← hq] at hQ ⊢
  rw [← hp] at hP ⊢
  have HX := Lib.hid hX
  have HM : Hid (∀ wz, Ext W wz → Calls Try.prog 42 #[.slice (some ⟨p, 0, none⟩) 32 32, .slice (some ⟨q, 0, none⟩) 32 32] wz fun e w' => e = .returned (.int .i64 (Lib.compareBytes (Lib.bytesOf A) (Lib.bytesOf B))) ∧ Ext wz w') := Lib.hid (fun wz hz => by
    have h1 := (hz.block _ (Rg.lt_of_heap hP)).trans hP
    have h2 := (hz.block _ (Rg.lt_of_heap hQ)).trans hQ
    rw [HRA.out] at h1
    rw [HRB.out] at h2
    have h := bytesCmp_any A B ⟨p, 0, none⟩ ⟨q, 0, none⟩ 32 32 wz (rowB_cell h1) (rowB_cell h2)
    rw [LA.out, LB.out] at h
    exact h.mono fun _ _ ⟨he, hw⟩ => ⟨he, hw ▸ Ext.refl _⟩)
  have HT : Hid (∀ wz, Calls Try.prog 43 #[.string a, .string b] wz fun e w' => e = .returned (.int .i64 c2) ∧ Ext wz w') := Lib.hid (fun wz => (HS.out wz).mono fun _ _ ⟨he, hw⟩ => ⟨he, hw ▸ Ext.refl _⟩)
  have k1 := cmpB_in (Lib.bytesOf A) (Lib.bytesOf B)
  generalize Lib.compareBytes (Lib.bytesOf A) (Lib.bytesOf B) = c1 at *
  clear hX hP hQ hp hq hx1 hx2 sa sb oa ob
  refine Rr.wp_region [(0, .y), (1, .y), (2, .y), (3, .y), (4, .y), (5, .y), (6, .m), (7, .y)] (fun _ => (.cells #[.int .i64 c1, .int .i64 c2] 3, fun p => .slice (some ⟨p, 0, none⟩) 2 2)) (by kernel_rfl) (by kernel_rfl) ?_
  (refine Rr.wr_y (by simp only [List.getElem?_toArray, List.getElem?_cons_succ, List.getElem?_cons_zero]; rfl) (by rfl) ?_
   apply Exists.intro
   refine ⟨fun wz hw _ => ?_, ?_⟩
   · have hcz := hw.cells.1
     go_simp
     (with_reducible exact Rg.up_value)
   simp only [Act.put, List.setIfInBounds_toArray, List.set_cons_zero, List.set_cons_succ])
  (refine Rr.wr_y (by simp only [List.getElem?_toArray, List.getElem?_cons_succ, List.getElem?_cons_zero]; rfl) (by rfl) ?_
   apply Exists.intro
   refine ⟨fun wz hw _ => ?_, ?_⟩
   · have hcz := hw.cells.1
     go_simp
     (with_reducible exact Rg.up_value)
   simp only [Act.put, List.setIfInBounds_toArray, List.set_cons_zero, List.set_cons_succ])
  (refine Rr.wr_y (by simp only [List.getElem?_toArray, List.getElem?_cons_succ, List.getElem?_cons_zero]; rfl) (by rfl) ?_
   apply Exists.intro
   refine ⟨fun wz hw _ => ?_, ?_⟩
   · have hcz := hw.cells.1
     go_simp
     apply Rg.up_enter
     (with_reducible refine (HM.out _ hw).mono ?_)
     rintro e w3 ⟨rfl, hb3⟩
     exact ⟨rfl, hb3⟩
   simp only [Act.put, List.setIfInBounds_toArray, List.set_cons_zero, List.set_cons_succ])
  (refine Rr.wr_y (by simp only [List.getElem?_toArray, List.getElem?_cons_succ, List.getElem?_cons_zero]; rfl) (by rfl) ?_
   apply Exists.intro
   refine ⟨fun wz hw _ => ?_, ?_⟩
   · have hcz := hw.cells.1
     go_simp
     (with_reducible exact Rg.up_value)
   simp only [Act.put, List.setIfInBounds_toArray, List.set_cons_zero, List.set_cons_succ])
  (refine Rr.wr_y (by simp only [List.getElem?_toArray, List.getElem?_cons_succ, List.getElem?_cons_zero]; rfl) (by rfl) ?_
   apply Exists.intro
   refine ⟨fun wz hw _ => ?_, ?_⟩
   · have hcz := hw.cells.1
     go_simp
     (with_reducible exact Rg.up_value)
   simp only [Act.put, List.setIfInBounds_toArray, List.set_cons_zero, List.set_cons_succ])
  (refine Rr.wr_y (by simp only [List.getElem?_toArray, List.getElem?_cons_succ, List.getElem?_cons_zero]; rfl) (by rfl) ?_
   apply Exists.intro
   refine ⟨fun wz hw _ => ?_, ?_⟩
   · have hcz := hw.cells.1
     go_simp
     apply Rg.up_enter
     (with_reducible refine (HT.out _).mono ?_)
     rintro e w3 ⟨rfl, hb3⟩
     exact ⟨rfl, hb3⟩
   simp only [Act.put, List.setIfInBounds_toArray, List.set_cons_zero, List.set_cons_succ])
  refine Rr.wr_m (by simp only [List.getElem?_toArray, List.getElem?_cons_succ, List.getElem?_cons_zero]; rfl) (by rfl) (fun wz => by go_simp) (fun p3 hp3 => ?_)
  simp only [Act.put, List.setIfInBounds_toArray, List.set_cons_zero, List.set_cons_succ]
  (refine Rr.wr_y (by simp only [List.getElem?_toArray, List.getElem?_cons_succ, List.getElem?_cons_zero]; rfl) (by rfl) ?_
   apply Exists.intro
   refine ⟨fun wz hw hh => ?_, ?_⟩
   · obtain ⟨-, hb⟩ := hh _ List.mem_cons_self
     have hl : IRd wz (.slice (some ⟨p3, 0, none⟩) 2 2) [c1, c2] := ⟨_, _, rfl, by simp, (by
       intro z hz
       simp only [List.mem_cons, List.not_mem_nil, or_false] at hz
       rcases hz with rfl | rfl <;> assumption), .inr ⟨p3, 0, rfl, fun k hk => by
       rw [cell_of_row wz p3 _ _ _ _ hb]
       match k, hk with
       | 0, _ => rfl
       | 1, _ => rfl⟩⟩
     go_simp
     apply Rg.up_enter
     (with_reducible refine (or_any _ _ wz hl).mono ?_)
     rintro e w3 ⟨rfl, rfl⟩
     exact ⟨rfl, Ext.refl _⟩
   simp only [Act.put, List.setIfInBounds_toArray, List.set_cons_zero, List.set_cons_succ])
  refine Rr.wr_nil ?_
  intro wy hy hh
  simp only [List.length_cons, List.length_nil, List.drop_succ_cons, List.drop_zero, Nat.reduceAdd]
  go_wp2_with (fail)
  go_ret
  exact ⟨by rw [HC.out]; rfl, HX.out.trans hy⟩
end Go.Proofs.Ytbeoihjfjkbfhaa
