/-
  The chapter's example, walked: items and sanity of the laws of chapter 20. Nothing is asked.
-/
import Derived.Test.YthdhlocoiipbaaaFlQ
import Derived.Test.YthdhlocoiipbaaaFlD
import Derived.ArgAppend
namespace Go.Proofs.Ythdhlocoiipbaaa
set_option linter.unusedVariables false
set_option linter.unusedSimpArgs false
open Go.RowKit

theorem sq_lit {α : Type} {cs : α → List Value} {sz : Nat} (hl : ∀ x, (cs x).length = sz) {w : World} {p c : Nat} {t : TypeId} {xs : List α} (h : w.heap[p]? = some (.cells (xs.flatMap cs).toArray t)) {n : Nat} (hx : xs.length = n) (hn : n ≤ 1000000) : SQ cs sz w (.slice (some ⟨p, 0, none⟩) n c) xs :=
  ⟨_, _, by rw [hx], by omega, .inr ⟨p, 0, rfl, fun k hk j u hu => by
    rw [Nat.zero_add, cell_of_row w p _ _ _ _ h]
    have := flat_get xs (fun x _ => hl x) k hk j u hu
    simpa using this⟩⟩
theorem ird_lit {w : World} {p c : Nat} {t : TypeId} {zs : List Int} (h : w.heap[p]? = some (.cells (zs.map (Value.int .i64)).toArray t)) (hz : ∀ z ∈ zs, OkI z) {n : Nat} (hx : zs.length = n) (hn : n ≤ 1000000) : IRd w (.slice (some ⟨p, 0, none⟩) n c) zs :=
  ⟨_, _, by rw [hx], by omega, hz, .inr ⟨p, 0, rfl, fun k hk => by
    rw [Nat.zero_add, cell_of_row w p _ _ _ _ h]
    simp [hk]⟩⟩
theorem okI_small {z : Int} (h : -1000000 ≤ z ∧ z ≤ 1000000) : OkI z := ⟨by omega, by omega⟩

set_option maxRecDepth 100000 in
theorem items_any (w : World) : Calls Try.prog 24 #[] w fun e w' => ∃ r c d, e = .returned r ∧ RI w' r (itS (.slice none 0 0) (.slice none 0 0) c d) ∧ Ext w w' := by
  go_enter Try.func24, Try.ntmps24
  go_wp2
  go_ret
  have N := news [.cells #[.int .i64 1, .int .i64 2] 3, .cells #[.int .i64 2] 3, .cells #[.int .i64 1, .int .i64 2, .slice none 0 0, .int .i64 2, .int .i64 1, .slice none 0 0, .int .i64 3, .int .i64 0, .slice (some ⟨w.heap.size, 0, none⟩) 2 2, .int .i64 4, .int .i64 4, .slice (some ⟨w.heap.size + 1, 0, none⟩) 1 1] 32] w
  have hE := exts [.cells #[.int .i64 1, .int .i64 2] 3, .cells #[.int .i64 2] 3, .cells #[.int .i64 1, .int .i64 2, .slice none 0 0, .int .i64 2, .int .i64 1, .slice none 0 0, .int .i64 3, .int .i64 0, .slice (some ⟨w.heap.size, 0, none⟩) 2 2, .int .i64 4, .int .i64 4, .slice (some ⟨w.heap.size + 1, 0, none⟩) 1 1] 32] w
  refine ⟨_, .slice (some ⟨w.heap.size, 0, none⟩) 2 2, .slice (some ⟨w.heap.size + 1, 0, none⟩) 1 1, rfl, ⟨sq_lit (cs := It.cs) (sz := 3) (n := 4) (xs := itS (.slice none 0 0) (.slice none 0 0) (.slice (some ⟨w.heap.size, 0, none⟩) 2 2) (.slice (some ⟨w.heap.size + 1, 0, none⟩) 1 1)) (fun x => rfl) (N 2 (by simp)) rfl (by decide), ?_⟩, hE⟩
  intro x hx
  have h0 := ird_nil
  simp only [itS, List.mem_cons, List.not_mem_nil, or_false] at hx
  rcases hx with rfl | rfl | rfl | rfl
  · exact ⟨okI_small (z := 1) (by decide), okI_small (z := 2) (by decide), ird_nil _ _ _⟩
  · exact ⟨okI_small (z := 2) (by decide), okI_small (z := 1) (by decide), ird_nil _ _ _⟩
  · exact ⟨okI_small (z := 3) (by decide), okI_small (z := 0) (by decide), ird_lit (zs := [1, 2]) (N 0 (by simp)) (by intro z hz; exact okI_small (by simp at hz; omega)) rfl (by decide)⟩
  · exact ⟨okI_small (z := 4) (by decide), okI_small (z := 4) (by decide), ird_lit (zs := [2]) (N 1 (by simp)) (by intro z hz; exact okI_small (by simp at hz; omega)) rfl (by decide)⟩

theorem msS_good {w : World} {u v : Value} (hu : IRd w u [4]) (hv : IRd w v [3]) : ∀ m ∈ msS u v, m.good w := by
  intro m hm
  simp only [msS, List.mem_cons, List.not_mem_nil, or_false] at hm
  rcases hm with rfl | rfl
  · exact ⟨okI_small (z := 9) (by decide), okI_small (z := 5) (by decide), okI_small (z := 3) (by decide), hu⟩
  · exact ⟨okI_small (z := 9) (by decide), okI_small (z := 5) (by decide), okI_small (z := 4) (by decide), hv⟩

set_option maxRecDepth 100000 in
set_option maxHeartbeats 4000000 in
theorem sanity_any (w : World) : Calls Try.prog 11 #[] w fun e w' => e = .returned (.bool true) ∧ Ext w w' := by
  go_enter Try.func11, Try.ntmps11
  go_upto_region 3 with (go_at_call 24; (with_reducible refine (items_any _).mono ?_); rintro e w1 ⟨r, c, d, rfl, hr, hx1⟩; have HR := Lib.hid hr; clear hr)
  have N := news [.cells #[.int .i64 4] 3, .cells #[.int .i64 3] 3, .cells #[.int .i64 9, .int .i64 5, .int .i64 3, .slice (some ⟨w1.heap.size, 0, none⟩) 1 1, .int .i64 9, .int .i64 5, .int .i64 4, .slice (some ⟨w1.heap.size + 1, 0, none⟩) 1 1] 48] w1
  have hE := exts [.cells #[.int .i64 4] 3, .cells #[.int .i64 3] 3, .cells #[.int .i64 9, .int .i64 5, .int .i64 3, .slice (some ⟨w1.heap.size, 0, none⟩) 1 1, .int .i64 9, .int .i64 5, .int .i64 4, .slice (some ⟨w1.heap.size + 1, 0, none⟩) 1 1] 48] w1
  simp only [List.foldl_cons, List.foldl_nil] at N hE
  generalize ((w1.alloc (.cells #[.int .i64 4] 3)).alloc (.cells #[.int .i64 3] 3)).alloc (.cells #[.int .i64 9, .int .i64 5, .int .i64 3, .slice (some ⟨w1.heap.size, 0, none⟩) 1 1, .int .i64 9, .int .i64 5, .int .i64 4, .slice (some ⟨w1.heap.size + 1, 0, none⟩) 1 1] 48) = W2 at *
  have hblk : W2.heap[w1.heap.size + 1 + 1]? = some (.cells #[.int .i64 9, .int .i64 5, .int .i64 3, .slice (some ⟨w1.heap.size, 0, none⟩) 1 1, .int .i64 9, .int .i64 5, .int .i64 4, .slice (some ⟨w1.heap.size + 1, 0, none⟩) 1 1] 48) := N 2 (by simp)
  have hu : IRd W2 (.slice (some ⟨w1.heap.size, 0, none⟩) 1 1) [4] := ird_lit (N 0 (by simp)) (by intro z hz; exact okI_small (by simp at hz; omega)) rfl (by decide)
  have hv : IRd W2 (.slice (some ⟨w1.heap.size + 1, 0, none⟩) 1 1) [3] := ird_lit (N 1 (by simp)) (by intro z hz; exact okI_small (by simp at hz; omega)) rfl (by decide)
  have hms : RM W2 (.slice (some ⟨w1.heap.size + 1 + 1, 0, none⟩) 2 2) (msS (.slice (some ⟨w1.heap.size, 0, none⟩) 1 1) (.slice (some ⟨w1.heap.size + 1, 0, none⟩) 1 1)) := ⟨sq_lit (cs := Ms.cs) (sz := 4) (n := 2) (xs := msS (.slice (some ⟨w1.heap.size, 0, none⟩) 1 1) (.slice (some ⟨w1.heap.size + 1, 0, none⟩) 1 1)) (fun x => rfl) hblk rfl (by decide), msS_good hu hv⟩
  have hm1 : RM W2 (.slice (some ⟨w1.heap.size + 1 + 1, 4, none⟩) 1 1) [⟨9, 5, 4, .slice (some ⟨w1.heap.size + 1, 0, none⟩) 1 1, [3]⟩] := by
    refine ⟨⟨_, _, rfl, by simp, .inr ⟨w1.heap.size + 1 + 1, 4, rfl, fun k hk j u' hu' => ?_⟩⟩, fun m hm => ?_⟩
    · obtain rfl : k = 0 := by simp at hk; omega
      rw [cell_of_row W2 _ _ _ _ _ hblk]
      have hj := (List.getElem?_eq_some_iff.1 hu').1
      simp only [List.getElem_cons_zero, Ms.cs, List.length_cons, List.length_nil] at hj hu'
      match j, hj with
      | 0, _ => exact hu'
      | 1, _ => exact hu'
      | 2, _ => exact hu'
      | 3, _ => exact hu'
    · rw [List.mem_singleton] at hm
      subst hm
      exact (msS_good hu hv) _ (by simp [msS])
  clear N
  have HR2 := Lib.hid (HR.out.ext hE); clear HR
  have hold : ∀ j u', ((msS (.slice (some ⟨w1.heap.size, 0, none⟩) 1 1) (.slice (some ⟨w1.heap.size + 1, 0, none⟩) 1 1)).flatMap Ms.cs)[j]? = some u' → W2.cell? ((⟨w1.heap.size + 1 + 1, 0, none⟩ : Addr).add j) = some u' := by
    intro j u' hj
    rw [addr_add, cell_of_row W2 _ _ _ _ _ hblk, ← Array.getElem?_toList]
    exact hj
  have f10 := Lib.hid (chk10 (.slice none 0 0) (.slice none 0 0) c d (.slice (some ⟨w1.heap.size, 0, none⟩) 1 1) (.slice (some ⟨w1.heap.size + 1, 0, none⟩) 1 1))
  have f4 := Lib.hid (chk4 (.slice none 0 0) (.slice none 0 0) c d (.slice (some ⟨w1.heap.size, 0, none⟩) 1 1) (.slice (some ⟨w1.heap.size + 1, 0, none⟩) 1 1))
  have f7 := Lib.hid (chk7 (.slice none 0 0) (.slice none 0 0) c d (.slice (some ⟨w1.heap.size, 0, none⟩) 1 1) (.slice (some ⟨w1.heap.size + 1, 0, none⟩) 1 1))
  have fl := Lib.hid (labsS (.slice none 0 0) (.slice none 0 0) c d)
  have k3 := Lib.hid (know3 (.slice none 0 0) (.slice none 0 0) c d (.slice (some ⟨w1.heap.size, 0, none⟩) 1 1) (.slice (some ⟨w1.heap.size + 1, 0, none⟩) 1 1))
  have k4 := Lib.hid (know4 (.slice none 0 0) (.slice none 0 0) c d (.slice (some ⟨w1.heap.size, 0, none⟩) 1 1) (.slice (some ⟨w1.heap.size + 1, 0, none⟩) 1 1))
  have hml : (msS (.slice (some ⟨w1.heap.size, 0, none⟩) 1 1) (.slice (some ⟨w1.heap.size + 1, 0, none⟩) 1 1)).length ≤ 100 ∧ ∀ m ∈ msS (.slice (some ⟨w1.heap.size, 0, none⟩) 1 1) (.slice (some ⟨w1.heap.size + 1, 0, none⟩) 1 1), m.its.length ≤ 100 := by
    refine ⟨by simp [msS], fun m hm => ?_⟩
    simp only [msS, List.mem_cons, List.not_mem_nil, or_false] at hm
    rcases hm with rfl | rfl <;> simp
  have hml2 : (msS (.slice (some ⟨w1.heap.size, 0, none⟩) 1 1) (.slice (some ⟨w1.heap.size + 1, 0, none⟩) 1 1)).length = 2 := rfl
  have hol : ((msS (.slice (some ⟨w1.heap.size, 0, none⟩) 1 1) (.slice (some ⟨w1.heap.size + 1, 0, none⟩) 1 1)).flatMap Ms.cs).length = 2 * 4 := rfl
  have HMS := Lib.hid hms; have HM1 := Lib.hid hm1
  clear hblk hu hv hms hm1
  generalize itS (.slice none 0 0) (.slice none 0 0) c d = xs at *
  generalize msS (.slice (some ⟨w1.heap.size, 0, none⟩) 1 1) (.slice (some ⟨w1.heap.size + 1, 0, none⟩) 1 1) = ms at *
  have hx2 : Ext w W2 := hx1.trans hE
  clear hx1 hE
  have hC3 := Check_any xs ms [5] 10 r (.slice (some ⟨w1.heap.size + 1 + 1, 0, none⟩) 2 2) (.slice (some ⟨W2.heap.size, 0, none⟩) 1 1) (W2.alloc (.cells #[.int .i64 5] 3)) (HR2.out.ext (Ext.alloc (Ext.refl _) _)) (HMS.out.ext (Ext.alloc (Ext.refl _) _)) (ird_lit (zs := [5]) (World.alloc_heap_new W2 _) (by intro z hz; exact okI_small (by simp at hz; omega)) rfl (by decide)) (okI_small (z := 10) (by decide))
  rw [f10.out] at hC3
  go_upto_region 4 with (go_at_call 18; (with_reducible refine hC3.mono ?_); clear hC3; rintro e w3 ⟨r3, rfl, hr3, hx3⟩)
  have h23 : Ext W2 w3 := Ext.trans (Ext.alloc (Ext.refl _) _) hx3
  clear hx3
  have HR3 := Lib.hid hr3; clear hr3
  have hC4 := Check_any xs ms [5] 4 r (.slice (some ⟨w1.heap.size + 1 + 1, 0, none⟩) 2 2) (.slice (some ⟨w3.heap.size, 0, none⟩) 1 1) (w3.alloc (.cells #[.int .i64 5] 3)) (HR2.out.ext (h23.trans (Ext.alloc (Ext.refl _) _))) (HMS.out.ext (h23.trans (Ext.alloc (Ext.refl _) _))) (ird_lit (zs := [5]) (World.alloc_heap_new w3 _) (by intro z hz; exact okI_small (by simp at hz; omega)) rfl (by decide)) (okI_small (z := 4) (by decide))
  rw [f4.out] at hC4
  go_upto_region 5 with (go_at_call 18; (with_reducible refine hC4.mono ?_); clear hC4; rintro e w4 ⟨r4, rfl, hr4, hx4⟩; obtain ⟨b4, c4, rfl⟩ := hr4.1.form)
  have h34 : Ext w3 w4 := Ext.trans (Ext.alloc (Ext.refl _) _) hx4
  clear hx4 hr4
  have h24 := h23.trans h34
  obtain ⟨i0, hi, hz0, hz1, hz2⟩ := info_parts (show (Try.prog.info? 48).map (fun i => (i.zero, i.size, i.bytes)) = some (some (.agg #[.int .i64 0, .int .i64 0, .int .i64 0, .slice none 0 0]), 4, 48) by kernel_rfl)
  have N5 := news [.cells #[.int .i64 7] 3, .cells #[.int .i64 0, .int .i64 0, .int .i64 0, .slice (some ⟨w4.heap.size, 0, none⟩) 1 1] 48] w4
  have h5a := N5 0 (by simp)
  have h5b := N5 1 (by simp)
  have h4x := exts [.cells #[.int .i64 7] 3, .cells #[.int .i64 0, .int .i64 0, .int .i64 0, .slice (some ⟨w4.heap.size, 0, none⟩) 1 1] 48] w4
  simp only [List.foldl_cons, List.foldl_nil] at h5a h5b h4x
  clear N5
  have H5 : ∀ v5 w5, w5.ownsRow ((w4.alloc (.cells #[.int .i64 7] 3)).alloc (.cells #[.int .i64 0, .int .i64 0, .int .i64 0, .slice (some ⟨w4.heap.size, 0, none⟩) 1 1] 48)).heap.size 48 4 v5 (2 + 1) (ms.flatMap Ms.cs ++ [.int .i64 0, .int .i64 0, .int .i64 0, .slice (some ⟨w4.heap.size, 0, none⟩) 1 1]) → ((w4.alloc (.cells #[.int .i64 7] 3)).alloc (.cells #[.int .i64 0, .int .i64 0, .int .i64 0, .slice (some ⟨w4.heap.size, 0, none⟩) 1 1] 48)).grownBy w5 none →
      Ext w4 w5 ∧ RM w5 v5 (ms ++ [⟨0, 0, 0, .slice (some ⟨w4.heap.size, 0, none⟩) 1 1, [7]⟩]) := by
    intro v5 w5 hr5 hg5
    have hx5 : Ext ((w4.alloc (.cells #[.int .i64 7] 3)).alloc (.cells #[.int .i64 0, .int .i64 0, .int .i64 0, .slice (some ⟨w4.heap.size, 0, none⟩) 1 1] 48)) w5 := ⟨hg5.os, hg5.tape, hg5.output, hg5.size, fun k hk => hg5.block k hk (by simp)⟩
    have hx45 := h4x.trans hx5
    have h3 : (ms ++ [(⟨0, 0, 0, .slice (some ⟨w4.heap.size, 0, none⟩) 1 1, [7]⟩ : Ms)]).length = 2 + 1 := by rw [List.length_append, hml2]; rfl
    have hfm : (ms ++ [(⟨0, 0, 0, .slice (some ⟨w4.heap.size, 0, none⟩) 1 1, [7]⟩ : Ms)]).flatMap Ms.cs = ms.flatMap Ms.cs ++ [.int .i64 0, .int .i64 0, .int .i64 0, .slice (some ⟨w4.heap.size, 0, none⟩) 1 1] := by rw [List.flatMap_append]; rfl
    rw [← h3, ← hfm] at hr5
    refine ⟨hx45, ⟨(SR.of_row (cs := Ms.cs) (fun x => rfl) hr5 (by rw [h3]; decide)).sq, fun m hm => ?_⟩⟩
    rcases List.mem_append.1 hm with hm | hm
    · exact (HMS.out.2 m hm).ext (h24.trans hx45)
    · rw [List.mem_singleton] at hm
      subst hm
      exact ⟨okI_small (z := 0) (by decide), okI_small (z := 0) (by decide), okI_small (z := 0) (by decide), ird_lit (zs := [7]) ((hx5.block _ (Rg.lt_of_heap h5a)).trans h5a) (by intro z hz; exact okI_small (by simp at hz; omega)) rfl (by decide)⟩
  have hold5 : ∀ b', some (⟨w1.heap.size + 1 + 1, 0, none⟩ : Addr) = some b' → ∀ j u', (ms.flatMap Ms.cs)[j]? = some u' → ((w4.alloc (.cells #[.int .i64 7] 3)).alloc (.cells #[.int .i64 0, .int .i64 0, .int .i64 0, .slice (some ⟨w4.heap.size, 0, none⟩) 1 1] 48)).cell? (b'.add j) = some u' := by
    intro b' e j u' hj
    cases e
    have := hold j u' hj
    rw [addr_add] at this ⊢
    exact ((h24.trans h4x).cells.1 _ _ (World.block_lt_of_cell? W2 _ this)).trans this
  have hC7 : ∀ v5 w5, RM w5 v5 (ms ++ [⟨0, 0, 0, .slice (some ⟨w4.heap.size, 0, none⟩) 1 1, [7]⟩]) → Ext w4 w5 → _ := fun v5 w5 h1 h2 => Check_any xs (ms ++ [⟨0, 0, 0, .slice (some ⟨w4.heap.size, 0, none⟩) 1 1, [7]⟩]) [] 0 r v5 (.slice none 0 0) w5 (HR2.out.ext (h24.trans h2)) h1 (ird_nil _ _ _) (okI_small (z := 0) (by decide))
  go_upto_region 6 with (first
    | (at_builtin; go_loud (refine wpList_append_grows _ rfl _ _ 36 rfl 48 i0 _ 4 48 Try.underlying36 hi hz0 hz1 hz2 rfl (by decide) (some ⟨w1.heap.size + 1 + 1, 0, none⟩) 2 2 (ms.flatMap Ms.cs) (by rfl) (by simp) hol hold5 ⟨w4.heap.size + 1, 0, none⟩ 1 1 [.int .i64 0, .int .i64 0, .int .i64 0, .slice (some ⟨w4.heap.size, 0, none⟩) 1 1] (by rfl) rfl (by intro j u' hj; rw [addr_add, cell_of_row _ _ _ _ _ _ h5b, ← Array.getElem?_toList]; exact hj) (by simp [Value.oneCell']) (by decide) (by decide) (by decide) ?_; intro v5 w5 hr5 hg5; obtain ⟨h45, hrm5⟩ := H5 v5 w5 hr5 hg5; have hC := hC7 v5 w5 hrm5 h45))
    | (go_at_call 18; rw [f7.out] at hC; (with_reducible refine hC.mono ?_); clear hC; rintro e w6 ⟨r6, rfl, hr6, hx6⟩))
  have h26 : Ext W2 w6 := (h24.trans h45).trans hx6
  have h36 : Ext w3 w6 := (h34.trans h45).trans hx6
  clear hr5 hg5 hC7 H5 hold5 hold h5a h5b h4x hrm5 h45 hx6 hr6 h23 h34
  have hL := Labels_lab xs r w6 (HR2.out.ext h26)
  rw [fl.out] at hL
  go_upto_region 7 with (go_at_call 15; (with_reducible refine hL.mono ?_); clear hL; rintro e w7 ⟨r7, rfl, hr7, -, hx7⟩)
  have hI := Ints_any r7 (.slice (some ⟨w7.heap.size, 0, none⟩) 4 4) [2, 1, 3, 5] [2, 1, 3, 5] (w7.alloc (.cells #[.int .i64 2, .int .i64 1, .int .i64 3, .int .i64 5] 3)) (hr7.ext (Ext.alloc (Ext.refl _) _)) (ird_lit (zs := [2, 1, 3, 5]) (World.alloc_heap_new w7 _) (by intro z hz; exact okI_small (by simp at hz; omega)) rfl (by decide))
  rw [decide_eq_true rfl] at hI
  go_upto_region 8 with (go_at_call 14; (with_reducible refine hI.mono ?_); clear hI; rintro e w8 ⟨rfl, hx8⟩)
  have h28 : Ext W2 w8 := (h26.trans hx7).trans (Ext.trans (Ext.alloc (Ext.refl _) _) hx8)
  have h38 : Ext w3 w8 := (h36.trans hx7).trans (Ext.trans (Ext.alloc (Ext.refl _) _) hx8)
  clear hr7 hx7 hx8
  have hS := SameAll_any r3 (.slice (some ⟨w1.heap.size + 1 + 1, 4, none⟩) 1 1) _ _ w8 (HR3.out.ext h38) (HM1.out.ext h28)
  have hs1 : ∀ v : Value, sameL [⟨9, 5, 4, v, [3]⟩] [⟨9, 5, 4, v, [3]⟩] = true := fun v => by simp [sameL, sameM]
  simp only [hs1] at hS
  have hK3 : ∀ w9, Ext w8 w9 → _ := fun w9 h => Knows_any xs ms 5 3 r (.slice (some ⟨w1.heap.size + 1 + 1, 0, none⟩) 2 2) w9 (HR2.out.ext (h28.trans h)) (HMS.out.ext (h28.trans h)) hml
  have hK4 : ∀ w9, Ext w8 w9 → _ := fun w9 h => Knows_any xs ms 5 4 r (.slice (some ⟨w1.heap.size + 1 + 1, 0, none⟩) 2 2) w9 (HR2.out.ext (h28.trans h)) (HMS.out.ext (h28.trans h)) hml
  have hI3 : ∀ r' w9, IRd w9 r' [4] → _ := fun r' w9 h => Ints_any r' (.slice (some ⟨w9.heap.size, 0, none⟩) 1 1) [4] [4] (w9.alloc (.cells #[.int .i64 4] 3)) (h.ext (Ext.alloc (Ext.refl _) _)) (ird_lit (zs := [4]) (World.alloc_heap_new w9 _) (by intro z hz; exact okI_small (by simp at hz; omega)) rfl (by decide))
  have hI4 : ∀ r' w9, IRd w9 r' [3, 4] → _ := fun r' w9 h => Ints_any r' (.slice (some ⟨w9.heap.size, 0, none⟩) 2 2) [3, 4] [3, 4] (w9.alloc (.cells #[.int .i64 3, .int .i64 4] 3)) (h.ext (Ext.alloc (Ext.refl _) _)) (ird_lit (zs := [3, 4]) (World.alloc_heap_new w9 _) (by intro z hz; exact okI_small (by simp at hz; omega)) rfl (by decide))
  rw [k3.out] at hK3
  rw [k4.out] at hK4
  rw [decide_eq_true rfl] at hI3 hI4
  go_wp2_with (first
    | (go_at_call 20; (with_reducible refine hS.mono ?_); rintro e w9 ⟨rfl, hx9⟩)
    | (go_at_call 21; first | ((with_reducible refine (hK3 _ hx9).mono ?_); rintro e w10 ⟨r10, rfl, hr10, hx10⟩) | ((with_reducible refine (hK4 _ h8x).mono ?_); rintro e w12 ⟨r12, rfl, hr12, hx12⟩))
    | (go_at_call 14; first | ((with_reducible refine (hI3 _ _ hr10).mono ?_); rintro e w11 ⟨rfl, hx11⟩; have h8x : Ext w8 w11 := (hx9.trans hx10).trans (Ext.trans (Ext.alloc (Ext.refl _) _) hx11)) | ((with_reducible refine (hI4 _ _ hr12).mono ?_); rintro e w13 ⟨rfl, hx13⟩)))
  go_ret
  exact ⟨rfl, (((hx2.trans h28).trans h8x).trans hx12).trans (Ext.trans (Ext.alloc (Ext.refl _) _) hx13)⟩

end Go.Proofs.Ythdhlocoiipbaaa
