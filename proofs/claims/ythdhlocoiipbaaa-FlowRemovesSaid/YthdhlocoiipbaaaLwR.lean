/-
  FlowRemoves, walked. Conditions: the arguments read as rows of ints and a byte.
-/
import Derived.Test.YthdhlocoiipbaaaFlF
namespace Go.Proofs.Ythdhlocoiipbaaa
set_option linter.unusedVariables false
set_option linter.unusedSimpArgs false
open Go.RowKit

theorem row_cap {B E sz n : Nat} {w : World} {v : Value} {xs : List Value} (h : w.ownsRow B E sz v n xs) : ∃ base cap, v = .slice base n cap ∧ n ≤ cap ∧ cap ≤ maxLen := by
  rcases h.2 with ⟨rfl, h0⟩ | ⟨g, cap, cur, rfl, -, -, h1, h2, -⟩
  · exact ⟨none, 0, by rw [h0], by omega, by decide⟩
  · exact ⟨_, cap, rfl, h1, h2⟩
theorem RM.one {w : World} {base : Option Addr} {n c : Nat} {ms : List Ms} (h : RM w (.slice base n c) ms) {k : Nat} (hk : k < ms.length) (c' : Nat) : ∃ b off, base = some ⟨b, off, none⟩ ∧ RM w (.slice (some ⟨b, off + k * 4, none⟩) 1 c') [ms[k]] := by
  obtain ⟨b, off, rfl, -, hc⟩ := h.1.block k hk
  refine ⟨b, off, rfl, ⟨⟨_, _, rfl, by simp, .inr ⟨b, off + k * 4, rfl, fun i hi j u hu => ?_⟩⟩, fun m hm => ?_⟩⟩
  · obtain rfl : i = 0 := by simp at hi; omega
    have := hc k hk j u hu
    simpa using this
  · rw [List.mem_singleton] at hm
    subst hm
    exact h.2 _ (List.getElem_mem _)
theorem filter_at {α : Type} (p : α → Bool) (l : List α) {k : Nat} (hk : k < l.length) (hp : p l[k] = true) : ∃ h : ((l.take k).filter p).length < (l.filter p).length, (l.filter p)[((l.take k).filter p).length] = l[k] := by
  have h1 : l.filter p = (l.take k).filter p ++ l[k] :: (l.drop (k + 1)).filter p := by
    conv => lhs; rw [← List.take_append_drop k l, List.drop_eq_getElem_cons hk]
    rw [List.filter_append, List.filter_cons, if_pos hp]
  have h2 : ((l.take k).filter p).length < (l.filter p).length := by rw [h1, List.length_append, List.length_cons]; omega
  refine ⟨h2, ?_⟩
  have h3 : (l.filter p)[((l.take k).filter p).length]? = some l[k] := by
    rw [h1, List.getElem?_append_right (Nat.le_refl _), Nat.sub_self]
    rfl
  rw [List.getElem?_eq_getElem h2] at h3
  exact Option.some.inj h3

set_option maxRecDepth 100000 in
set_option maxHeartbeats 4000000 in
theorem removes_walk (v u : Value) (f g : Nat → Nat → Int) (n m : Nat) (q : Int) (hq : 0 ≤ q ∧ q ≤ 255) (w : World) (h : RA 3 w v f n) (h5 : RA 5 w u g m) :
    Calls Try.prog 8 #[v, u, .int .u8 q] w fun e w' => e = .returned (.bool true) ∧ Ext w w' := by
  have H0 := Lib.hid h; clear h
  have H5 := Lib.hid h5; clear h5
  go_enter Try.func8, Try.ntmps8
  go_upto_region 3 with (first
    | (go_at_call 11; (with_reducible refine (sanity_any _).mono ?_); rintro e w1 ⟨rfl, hx1⟩)
    | (go_at_call 12; (with_reducible refine (Made_any v f n _ (H0.out.ext hx1)).mono ?_); rintro e w2 ⟨r, xs, rfl, hM, hN, hx2⟩; obtain ⟨bx, cx, rfl⟩ := (hM.ri (by omega)).1.form; have hX := Lib.hid (hM.x hN); have hR := Lib.hid (hM.ri (by omega)); have hxl : xs.length ≤ 20 := (by omega); clear hM hN))
  go_upto_region 4 with (go_at_call 17; (with_reducible refine (Messages_any u g m xs.length _ ((H5.out.ext hx1).ext hx2) (by omega)).mono ?_); rintro e w3 ⟨r3, ms, rfl, hS, -, hx3⟩; obtain ⟨bm, cm, rfl, hcm, hcl⟩ := row_cap hS.1)
  have hY := Lib.hid (hS.x (by omega))
  have hRM := Lib.hid (hS.rm (by omega) (by omega))
  clear hS
  have hml := hY.out.1
  unfold maxLen at hcl
  go_upto_region 5 with (fail)
  have ht := modZ_bd q (m := 14) (by decide)
  generalize q % 14 = t at *
  have hR3 := Lib.hid (hR.out.ext hx3)
  have hx03 : Ext w w3 := (hx1.trans hx2).trans hx3
  clear hx1 hx2 hx3 hR
  have hits : ∀ m ∈ ms, ∀ id ∈ m.its, 1 ≤ id ∧ id ≤ xs.length := fun m hm id hid => hY.out.its hm hid
  have hC : ∀ (w7 : World) (l : List Ms) (v7 : Value), (∀ x ∈ l, x ∈ ms) → Ext w3 w7 → RM w7 v7 l → Calls Try.prog 18 #[.slice bx xs.length cx, v7, .slice (some ⟨w7.heap.size, 0, none⟩) 2 2, .int .i64 t] (w7.alloc (.cells #[.int .i64 2, .int .i64 3] 3)) fun e w' =>
      ∃ r, e = .returned (.tuple #[r, .int .i64 (if l.filter (bad xs [2, 3] t) = [] then ([], 0) else (l.filter (bad xs [2, 3] t), 40) : List Ms × Int).2]) ∧ RM w' r (if l.filter (bad xs [2, 3] t) = [] then ([], 0) else (l.filter (bad xs [2, 3] t), 40) : List Ms × Int).1 ∧ Ext w7 w' := by
    intro w7 l v7 hl hx hv
    have := Check_any xs l [2, 3] t (.slice bx xs.length cx) v7 (.slice (some ⟨w7.heap.size, 0, none⟩) 2 2) (w7.alloc (.cells #[.int .i64 2, .int .i64 3] 3)) ((hR3.out.ext hx).ext (Ext.alloc (Ext.refl _) _)) (hv.ext (Ext.alloc (Ext.refl _) _)) (ird_lit (zs := [2, 3]) (World.alloc_heap_new w7 _) (by intro z hz; exact okI_small (by simp at hz; omega)) rfl (by decide)) (okI_small (by omega))
    rw [ms_chk hX.out (fun m hm id hid => hits m (hl m hm) id hid)] at this
    exact this.mono fun e w' ⟨r, h1, h2, h3⟩ => ⟨r, h1, h2, Ext.trans (Ext.alloc (Ext.refl _) _) h3⟩
  have HC := Lib.hid hC; clear hC
  generalize bad xs [2, 3] t = bd at *
  have hW : ∀ w7, Ext w3 w7 → ∃ K : Int, Calls Try.prog 18 #[.slice bx xs.length cx, .slice bm ms.length cm, .slice (some ⟨w7.heap.size, 0, none⟩) 2 2, .int .i64 t] (w7.alloc (.cells #[.int .i64 2, .int .i64 3] 3)) fun e w' => ∃ r, e = .returned (.tuple #[r, .int .i64 K]) ∧ RM w' r (ms.filter bd) ∧ Ext w7 w' := by
    intro w7 hx
    have := HC.out w7 ms _ (fun x h => h) hx (hRM.out.ext hx)
    by_cases hf : ms.filter bd = []
    · rw [if_pos hf] at this
      exact ⟨0, this.mono fun e w' ⟨r, h1, h2, h3⟩ => ⟨r, h1, by rw [hf]; exact h2, h3⟩⟩
    · rw [if_neg hf] at this
      exact ⟨40, this⟩
  obtain ⟨K, hW⟩ := hW w3 (Ext.refl _)
  go_upto_region 9 with (go_at_call 18; (with_reducible refine hW.mono ?_); clear hW; rintro e w4 ⟨r4, rfl, hr4, hx4⟩; obtain ⟨b4, c4, rfl⟩ := hr4.1.form)
  have HR4 := Lib.hid hr4; clear hr4
  have hfl : (ms.filter bd).length ≤ ms.length := List.length_filter_le _ _
  obtain ⟨nf, hnf⟩ : ∃ nf, (ms.filter bd).length = nf := ⟨_, rfl⟩
  rw [hnf] at HR4 hfl ⊢
  go_loopw [13, 14, 15] (fun o c k wr => ∃ j : Nat, k = .int .i64 j ∧ j ≤ ms.length ∧ c = .int .i64 (((ms.take j).filter bd).length : Nat) ∧ wr.ownsRow w4.heap.size 48 4 o ((ms.take j).filter (fun x => !bd x)).length (((ms.take j).filter (fun x => !bd x)).flatMap Ms.cs) ∧ Ext w4 wr) (fun _ _ k _ => ms.length - (iof k).toNat)
  case atStart => exact ⟨0, rfl, by omega, rfl, World.ownsRow_nil _ _ _ _, Ext.refl _⟩
  case round =>
    obtain ⟨j, rfl, hj, rfl, hrow, hx⟩ := hrel
    by_cases hjl : j < ms.length
    · have hx3r : Ext w3 wr := hx4.trans hx
      obtain ⟨b, off, rfl, hone⟩ := (hRM.out.ext hx3r).one hjl (cm - j)
      have hmr := hRM.out.ext hx3r
      obtain ⟨b', off', e1, -, c0, c1, c2, c3⟩ := ms_at hmr.1 j hjl
      injection e1 with e1
      injection e1 with e1 e2
      subst e1 e2
      have hmg := hmr.2 ms[j] (List.getElem_mem _)
      have hA := HC.out wr [ms[j]] _ (fun x h => by rw [List.mem_singleton] at h; subst h; exact List.getElem_mem _) hx3r hone
      have hfj : ((ms.take j).filter bd).length ≤ j := Nat.le_trans (List.length_filter_le _ _) (by rw [List.length_take]; omega)
      have hgj : ((ms.take j).filter (fun x => !bd x)).length ≤ j := Nat.le_trans (List.length_filter_le _ _) (by rw [List.length_take]; omega)
      have ht1 : (ms.take (j + 1)).filter bd = (ms.take j).filter bd ++ if bd ms[j] then [ms[j]] else [] := by
        rw [List.take_succ_eq_append_getElem hjl, List.filter_append]
        congr 1
        cases hq : bd ms[j] <;> simp [hq]
      have ht2 : (ms.take (j + 1)).filter (fun x => !bd x) = (ms.take j).filter (fun x => !bd x) ++ if bd ms[j] then [] else [ms[j]] := by
        rw [List.take_succ_eq_append_getElem hjl, List.filter_append]
        congr 1
        cases hq : bd ms[j] <;> simp [hq]
      have Ht1 := Lib.hid ht1; have Ht2 := Lib.hid ht2; clear ht1 ht2
      cases hb : bd ms[j] with
      | false =>
        have h0 : [ms[j]].filter bd = [] := by simp [hb]
        rw [if_pos h0] at hA
        rw [hb, if_neg (by simp), List.append_nil] at Ht1
        rw [hb, if_neg (by simp)] at Ht2
        clear h0
        obtain ⟨A, c, hsh⟩ := hmg.shape
        generalize ms[j] = mj at *
        obtain ⟨q0, q1, q2, qv, qi⟩ := mj
        simp only at hsh c0 c1 c2 c3
        subst hsh
        have l1 := World.block_lt_of_cell? wr ⟨b, off + j * 4, none⟩ c0
        go_upto_region 12 with (go_at_call 18; (with_reducible refine hA.mono ?_); rintro e w7 ⟨r7, rfl, hr7, hx7⟩; obtain ⟨b7, c7, rfl⟩ := hr7.1.form)
        have d0 := (hx7.cells.1 _ _ l1).trans c0
        have d1 := (hx7.cells.1 _ _ l1).trans c1
        have d2 := (hx7.cells.1 _ _ l1).trans c2
        have d3 := (hx7.cells.1 _ _ l1).trans c3
        clear c0 c1 c2 c3
        go_wp2_with (at_builtin; go_loud (refine append_u (cs := Ms.cs) (z := .agg #[.int .i64 0, .int .i64 0, .int .i64 0, .slice none 0 0]) 36 48 48 Try.underlying36 (by kernel_rfl) (by rfl) (by decide) (by decide) rfl _ _ rfl w4.heap.size _ ((ms.take j).filter (fun x => !bd x)) (by rfl) (row_ext hrow (hx7.trans (Ext.alloc (Ext.refl _) _))) w7.heap.size ⟨q0, q1, q2, .slice A qi.length c, qi⟩ ⟨rfl, by simp [Ms.cs, Value.oneCell']⟩ (by rfl) (World.alloc_heap_new _ _) (by omega) (by have := hx.size; have := hx7.size; simp; omega) ?_; intro g cap' w9 hr9 hb9))
        exact ⟨⟨j + 1, by simp, by omega, by rw [Ht1.out], by rw [Ht2.out]; simpa using hr9, Below.trans (hx.trans (hx7.trans (Ext.alloc (Ext.refl _) _))) hb9⟩, by simp; omega⟩
      | true =>
        have h0 : [ms[j]].filter bd = [ms[j]] := by simp [hb]
        rw [h0, if_neg (by simp)] at hA
        rw [hb, if_pos rfl] at Ht1
        rw [hb, if_pos rfl, List.append_nil] at Ht2
        obtain ⟨hlt, hat⟩ := filter_at bd ms hjl hb
        clear h0
        rw [hnf] at hlt
        generalize hk : ((ms.take j).filter bd).length = kk at *
        obtain ⟨b5, o5, rfl, -, e0, e1, e2, e3⟩ := ms_at (HR4.out.1.ext hx) kk (by omega)
        have hS := Same_any ((ms.filter bd)[kk]'(by omega)) ms[j] wr ((HR4.out.2 _ (List.getElem_mem _)).ext hx) hmg
        simp only [hat] at e0 e1 e2 e3 hS
        have hsm : sameM ms[j] ms[j] = true := by simp [sameM]
        rw [hsm] at hS
        have hkl : (((ms.take (j + 1)).filter bd).length : Int) = kk + 1 := by rw [Ht1.out, List.length_append, hk]; simp
        have Hkl := Lib.hid hkl
        have hSx : ∀ wz, Ext wr wz → _ := fun wz hz => Same_any ms[j] ms[j] wz (hmg.ext hz) (hmg.ext hz)
        rw [hsm] at hSx
        clear hat hkl hk hS
        obtain ⟨A, c, hsh⟩ := hmg.shape
        generalize ms[j] = mj at *
        obtain ⟨q0, q1, q2, qv, qi⟩ := mj
        simp only at hsh c0 c1 c2 c3 e0 e1 e2 e3
        subst hsh
        simp only [Ms.v] at hSx
        have l1 := World.block_lt_of_cell? wr ⟨b, off + j * 4, none⟩ c0
        have l5 := World.block_lt_of_cell? wr ⟨b5, o5 + kk * 4, none⟩ e0
        go_upto_region 14 with (go_at_call 18; (with_reducible refine hA.mono ?_); rintro e w7 ⟨r7, rfl, hr7, hx7⟩; obtain ⟨b7, c7, rfl⟩ := hr7.1.form)
        have d0 := (hx7.cells.1 _ _ l1).trans c0
        have d1 := (hx7.cells.1 _ _ l1).trans c1
        have d2 := (hx7.cells.1 _ _ l1).trans c2
        have d3 := (hx7.cells.1 _ _ l1).trans c3
        have g0 := (hx7.cells.1 _ _ l5).trans e0
        have g1 := (hx7.cells.1 _ _ l5).trans e1
        have g2 := (hx7.cells.1 _ _ l5).trans e2
        have g3 := (hx7.cells.1 _ _ l5).trans e3
        have m1 := World.block_lt_of_cell? w7 ⟨b, off + j * 4, none⟩ d0
        have m5 := World.block_lt_of_cell? w7 ⟨b5, o5 + kk * 4, none⟩ g0
        have hS7 : ∀ wz, Ext w7 wz → _ := fun wz hz => hSx wz (hx7.trans hz)
        clear c0 c1 c2 c3 e0 e1 e2 e3 hSx l1 l5
        have hki : ¬ nf ≤ kk := by omega
        refine Rr.wp_region ((List.range 20).map (fun i => (i, .y))) (fun _ => (.cells #[] 29, Rg.ptr)) (by kernel_rfl) (by kernel_rfl) ?_
        simp only [List.range, List.range.loop, List.map_cons, List.map_nil]
        (refine Rr.wr_y (by simp only [List.getElem?_toArray, List.getElem?_cons_succ, List.getElem?_cons_zero]; rfl) (by rfl) ?_
         apply Exists.intro
         refine ⟨fun wz hw _ => ?_, ?_⟩
         · have hcz := hw.cells.1
           go_simp
           (with_reducible exact Rg.up_value)
         simp only [Act.put, List.setIfInBounds_toArray, List.set_cons_zero, List.set_cons_succ])
        (refine Rr.wr_y (by simp only [List.getElem?_toArray, List.getElem?_cons_succ, List.getElem?_cons_zero]; rfl) (by rfl) ?_
         apply Exists.intro
         refine ⟨fun wz hw _ => ?_, ?_⟩
         · have hcz := hw.cells.1
           go_simp
           (with_reducible exact Rg.up_value)
         simp only [Act.put, List.setIfInBounds_toArray, List.set_cons_zero, List.set_cons_succ])
        (refine Rr.wr_y (by simp only [List.getElem?_toArray, List.getElem?_cons_succ, List.getElem?_cons_zero]; rfl) (by rfl) ?_
         apply Exists.intro
         refine ⟨fun wz hw _ => ?_, ?_⟩
         · have hcz := hw.cells.1
           go_simp
           (with_reducible exact Rg.up_value)
         simp only [Act.put, List.setIfInBounds_toArray, List.set_cons_zero, List.set_cons_succ])
        (refine Rr.wr_y (by simp only [List.getElem?_toArray, List.getElem?_cons_succ, List.getElem?_cons_zero]; rfl) (by rfl) ?_
         apply Exists.intro
         refine ⟨fun wz hw _ => ?_, ?_⟩
         · have hcz := hw.cells.1
           go_simp
           (with_reducible exact Rg.up_value)
         simp only [Act.put, List.setIfInBounds_toArray, List.set_cons_zero, List.set_cons_succ])
        (refine Rr.wr_y (by simp only [List.getElem?_toArray, List.getElem?_cons_succ, List.getElem?_cons_zero]; rfl) (by rfl) ?_
         apply Exists.intro
         refine ⟨fun wz hw _ => ?_, ?_⟩
         · have hcz := hw.cells.1
           go_simp
           (with_reducible exact Rg.up_value)
         simp only [Act.put, List.setIfInBounds_toArray, List.set_cons_zero, List.set_cons_succ])
        (refine Rr.wr_y (by simp only [List.getElem?_toArray, List.getElem?_cons_succ, List.getElem?_cons_zero]; rfl) (by rfl) ?_
         apply Exists.intro
         refine ⟨fun wz hw _ => ?_, ?_⟩
         · have hcz := hw.cells.1
           go_simp
           (with_reducible exact Rg.up_value)
         simp only [Act.put, List.setIfInBounds_toArray, List.set_cons_zero, List.set_cons_succ])
        (refine Rr.wr_y (by simp only [List.getElem?_toArray, List.getElem?_cons_succ, List.getElem?_cons_zero]; rfl) (by rfl) ?_
         apply Exists.intro
         refine ⟨fun wz hw _ => ?_, ?_⟩
         · have hcz := hw.cells.1
           go_simp
           (with_reducible exact Rg.up_value)
         simp only [Act.put, List.setIfInBounds_toArray, List.set_cons_zero, List.set_cons_succ])
        (refine Rr.wr_y (by simp only [List.getElem?_toArray, List.getElem?_cons_succ, List.getElem?_cons_zero]; rfl) (by rfl) ?_
         apply Exists.intro
         refine ⟨fun wz hw _ => ?_, ?_⟩
         · have hcz := hw.cells.1
           go_simp
           (with_reducible exact Rg.up_value)
         simp only [Act.put, List.setIfInBounds_toArray, List.set_cons_zero, List.set_cons_succ])
        (refine Rr.wr_y (by simp only [List.getElem?_toArray, List.getElem?_cons_succ, List.getElem?_cons_zero]; rfl) (by rfl) ?_
         apply Exists.intro
         refine ⟨fun wz hw _ => ?_, ?_⟩
         · have hcz := hw.cells.1
           go_simp
           (with_reducible exact Rg.up_value)
         simp only [Act.put, List.setIfInBounds_toArray, List.set_cons_zero, List.set_cons_succ])
        (refine Rr.wr_y (by simp only [List.getElem?_toArray, List.getElem?_cons_succ, List.getElem?_cons_zero]; rfl) (by rfl) ?_
         apply Exists.intro
         refine ⟨fun wz hw _ => ?_, ?_⟩
         · have hcz := hw.cells.1
           go_simp
           (with_reducible exact Rg.up_value)
         simp only [Act.put, List.setIfInBounds_toArray, List.set_cons_zero, List.set_cons_succ])
        (refine Rr.wr_y (by simp only [List.getElem?_toArray, List.getElem?_cons_succ, List.getElem?_cons_zero]; rfl) (by rfl) ?_
         apply Exists.intro
         refine ⟨fun wz hw _ => ?_, ?_⟩
         · have hcz := hw.cells.1
           go_simp
           (with_reducible exact Rg.up_value)
         simp only [Act.put, List.setIfInBounds_toArray, List.set_cons_zero, List.set_cons_succ])
        (refine Rr.wr_y (by simp only [List.getElem?_toArray, List.getElem?_cons_succ, List.getElem?_cons_zero]; rfl) (by rfl) ?_
         apply Exists.intro
         refine ⟨fun wz hw _ => ?_, ?_⟩
         · have hcz := hw.cells.1
           go_simp
           (with_reducible exact Rg.up_value)
         simp only [Act.put, List.setIfInBounds_toArray, List.set_cons_zero, List.set_cons_succ])
        (refine Rr.wr_y (by simp only [List.getElem?_toArray, List.getElem?_cons_succ, List.getElem?_cons_zero]; rfl) (by rfl) ?_
         apply Exists.intro
         refine ⟨fun wz hw _ => ?_, ?_⟩
         · have hcz := hw.cells.1
           go_simp
           (with_reducible exact Rg.up_value)
         simp only [Act.put, List.setIfInBounds_toArray, List.set_cons_zero, List.set_cons_succ])
        (refine Rr.wr_y (by simp only [List.getElem?_toArray, List.getElem?_cons_succ, List.getElem?_cons_zero]; rfl) (by rfl) ?_
         apply Exists.intro
         refine ⟨fun wz hw _ => ?_, ?_⟩
         · have hcz := hw.cells.1
           exact up_load48 (by rfl) ((hcz _ _ m5).trans g0) ((hcz _ _ m5).trans g1) ((hcz _ _ m5).trans g2) ((hcz _ _ m5).trans g3)
         simp only [Act.put, List.setIfInBounds_toArray, List.set_cons_zero, List.set_cons_succ])
        (refine Rr.wr_y (by simp only [List.getElem?_toArray, List.getElem?_cons_succ, List.getElem?_cons_zero]; rfl) (by rfl) ?_
         apply Exists.intro
         refine ⟨fun wz hw _ => ?_, ?_⟩
         · have hcz := hw.cells.1
           go_simp
           (with_reducible exact Rg.up_value)
         simp only [Act.put, List.setIfInBounds_toArray, List.set_cons_zero, List.set_cons_succ])
        (refine Rr.wr_y (by simp only [List.getElem?_toArray, List.getElem?_cons_succ, List.getElem?_cons_zero]; rfl) (by rfl) ?_
         apply Exists.intro
         refine ⟨fun wz hw _ => ?_, ?_⟩
         · have hcz := hw.cells.1
           go_simp
           (with_reducible exact Rg.up_value)
         simp only [Act.put, List.setIfInBounds_toArray, List.set_cons_zero, List.set_cons_succ])
        (refine Rr.wr_y (by simp only [List.getElem?_toArray, List.getElem?_cons_succ, List.getElem?_cons_zero]; rfl) (by rfl) ?_
         apply Exists.intro
         refine ⟨fun wz hw _ => ?_, ?_⟩
         · have hcz := hw.cells.1
           go_simp
           (with_reducible exact Rg.up_value)
         simp only [Act.put, List.setIfInBounds_toArray, List.set_cons_zero, List.set_cons_succ])
        (refine Rr.wr_y (by simp only [List.getElem?_toArray, List.getElem?_cons_succ, List.getElem?_cons_zero]; rfl) (by rfl) ?_
         apply Exists.intro
         refine ⟨fun wz hw _ => ?_, ?_⟩
         · have hcz := hw.cells.1
           exact up_load48 (by rfl) ((hcz _ _ m1).trans d0) ((hcz _ _ m1).trans d1) ((hcz _ _ m1).trans d2) ((hcz _ _ m1).trans d3)
         simp only [Act.put, List.setIfInBounds_toArray, List.set_cons_zero, List.set_cons_succ])
        (refine Rr.wr_y (by simp only [List.getElem?_toArray, List.getElem?_cons_succ, List.getElem?_cons_zero]; rfl) (by rfl) ?_
         apply Exists.intro
         refine ⟨fun wz hw _ => ?_, ?_⟩
         · have hcz := hw.cells.1
           go_simp
           apply Rg.up_enter
           (with_reducible refine (hS7 wz hw).mono ?_)
           rintro e w3 ⟨rfl, hb3⟩
           exact ⟨rfl, hb3⟩
         simp only [Act.put, List.setIfInBounds_toArray, List.set_cons_zero, List.set_cons_succ])
        (refine Rr.wr_y (by simp only [List.getElem?_toArray, List.getElem?_cons_succ, List.getElem?_cons_zero]; rfl) (by rfl) ?_
         apply Exists.intro
         refine ⟨fun wz hw _ => ?_, ?_⟩
         · have hcz := hw.cells.1
           go_simp
           (with_reducible exact Rg.up_value)
         simp only [Act.put, List.setIfInBounds_toArray, List.set_cons_zero, List.set_cons_succ])
        refine Rr.wr_nil ?_
        intro wy hy hh
        simp only [List.length_cons, List.length_nil, List.drop_succ_cons, List.drop_zero, Nat.reduceAdd]
        clear hh
        go_wp2_with (fail)
        exact ⟨⟨j + 1, by simp, by omega, by rw [Hkl.out], by rw [Ht2.out]; exact row_ext hrow (hx7.trans hy), hx.trans (hx7.trans hy)⟩, by simp; omega⟩
    · obtain rfl : j = ms.length := by omega
      rw [List.take_length] at hrow
      rw [List.take_length, hnf]
      have hx3r : Ext w3 wr := hx4.trans hx
      have hgl : (ms.filter (fun x => !bd x)).length ≤ ms.length := List.length_filter_le _ _
      obtain ⟨rb, rc, rfl⟩ := (SR.of_row (cs := Ms.cs) (fun x => rfl) hrow (by omega)).form
      have hrr : RM wr (.slice rb (ms.filter (fun x => !bd x)).length rc) (ms.filter (fun x => !bd x)) := ⟨(SR.of_row (cs := Ms.cs) (fun x => rfl) hrow (by omega)).sq, fun x hx' => (hRM.out.ext hx3r).2 x (List.mem_filter.1 hx').1⟩
      have hA := HC.out wr (ms.filter (fun x => !bd x)) _ (fun x h => (List.mem_filter.1 h).1) hx3r hrr
      have h0 : (ms.filter (fun x => !bd x)).filter bd = [] := by
        rw [List.filter_eq_nil_iff]
        intro x hx'
        have := (List.mem_filter.1 hx').2
        cases hb : bd x <;> simp_all
      rw [if_pos h0] at hA
      clear h0 hrr hrow
      generalize (ms.filter (fun x => !bd x)).length = nr at *
      go_wp2_with (go_at_call 18; (with_reducible refine hA.mono ?_); rintro e w7 ⟨r7, rfl, hr7, hx7⟩; obtain ⟨b7, c7, rfl⟩ := hr7.1.form)
      go_ret
      exact ⟨rfl, (hx03.trans hx3r).trans hx7⟩

end Go.Proofs.Ythdhlocoiipbaaa
