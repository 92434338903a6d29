/-
  GradeMedian, walked. Condition: the argument reads as bytes.
-/
import Derived.Test.YtnplnfkmcfalhaaLwA
import Derived.Test.YtnplnfkmcfalhaaMeB
import Derived.Test.YtnplnfkmcfalhaaGdI
namespace Go.Proofs.Ytnplnfkmcfalhaa
set_option linter.unusedVariables false
set_option linter.unusedSimpArgs false
open Go.RowKit

/-- The grade of the k-th assessor in round r. -/
def xr (f : Nat → Int) (n : Nat) (q0 q1 : Int) (r k : Nat) : Int := if r = 1 ∧ (k : Int) = q0 % n then min 100 (f k % 101 + q1) else f k % 101
theorem xr_bd {f : Nat → Int} (h : ∀ i, 0 ≤ f i ∧ f i ≤ 255) {n : Nat} {q0 q1 : Int} (h1 : 0 ≤ q1) (r k : Nat) : 0 ≤ xr f n q0 q1 r k ∧ xr f n q0 q1 r k ≤ 100 := by
  have := h k
  unfold xr
  split <;> omega
theorem xr_mono {f : Nat → Int} (h : ∀ i, 0 ≤ f i ∧ f i ≤ 255) {n : Nat} {q0 q1 : Int} (h1 : 0 ≤ q1) (k : Nat) : xr f n q0 q1 0 k ≤ xr f n q0 q1 1 k := by
  have := h k
  unfold xr
  rw [if_neg (by omega)]
  split <;> omega

/-- What is found in round j, when r rounds are over. -/
def fd (f : Nat → Int) (n : Nat) (q0 q1 : Int) (j r : Nat) : Int := if j < r then med (xsOf (xr f n q0 q1 j) n) else 0
theorem okD_mDy {k : Nat} (h : k ≤ 20) : OkD (mDy k) := ⟨okI_small (z := 10 + (k : Int)) (by omega), okI_small (z := 1) (by decide)⟩

set_option maxRecDepth 100000 in
set_option maxHeartbeats 4000000 in
theorem median_walk (v : Value) (f : Nat → Int) (n : Nat) (q0 q1 : Int) (a0 : 0 ≤ q0 ∧ q0 ≤ 255) (a1 : 0 ≤ q1 ∧ q1 ≤ 255) (w : World) (h : UA w v f n) :
    Calls Try.prog 4 #[v, .agg #[.int .u8 q0, .int .u8 q1]] w fun e w' => e = .returned (.bool true) ∧ Ext w w' := by
  obtain ⟨A, cap, rfl, hnc, hcap, hf, hc⟩ := h
  have HF := Lib.hid hf; have HC0 := Lib.hid hc
  clear hf hc
  go_enter Try.func4, Try.ntmps4
  go_upto_region 5 with (first
    | (go_at_call 6; (with_reducible refine (sanity_any _).mono ?_); rintro e w1 ⟨rfl, hx1⟩)
    )
  · go_ret
    exact ⟨rfl, Ext.trans (Ext.alloc (Ext.refl _) _) hx1⟩
  rename_i h20 K0 HK0
  have hq := keep_heap hx1 (heap_alloc_new w (.cells #[.int .u8 q0, .int .u8 q1] 67))
  have hxw1 : Ext w w1 := Ext.trans (Ext.alloc (Ext.refl _) _) hx1
  have hqs : w.heap.size < w1.heap.size := Rg.lt_of_heap hq
  obtain ⟨pq, hpq⟩ : ∃ pq, pq = w.heap.size := ⟨_, rfl⟩
  obtain ⟨N, hN⟩ : ∃ N, N = (min (n : Int) 20).toNat := ⟨_, rfl⟩
  have hN0 : 0 < N := by
    have : ¬ (max (min (n : Int) 20) 0 = 0) := by simpa using h20
    omega
  have hNn : N ≤ n := by omega
  have hN20 : N ≤ 20 := by omega
  have hNc : N ≤ cap := by omega
  rw [← hN]
  rw [← hpq] at hq hqs ⊢
  have hcN : ∃ b off, A = some ⟨b, off, none⟩ ∧ ∀ i, i < N → w.cell? ⟨b, off + i, none⟩ = some (.int .u8 (f i)) := by
    obtain ⟨b, off, e, hc⟩ := HC0.out.resolve_left (by omega)
    exact ⟨b, off, e, fun i hi => hc i (by omega)⟩
  obtain ⟨ba, oa, rfl, hcell⟩ := hcN
  have HC := Lib.hid hcell
  have HQ := Lib.hid hq
  rw [h20]
  clear hcell hq hpq hx1 h20 hN HC0
  go_upto_region 6 with (refine wpList_store_row (hgd := rfl) 42 (.tmp 6) (.tmp 37) rfl (w1.heap.size + 1 + 1) (by rfl) (tenC (.slice (some ⟨w1.heap.size, 0, none⟩) 1 1) (.slice (some ⟨w1.heap.size + 1, 0, none⟩) 1 1)) (by rfl) (tenC (.slice none 0 0) (.slice none 0 0)) 42 (heap_at _ _ _ (by simp)) (by rfl) (by kernel_rfl) (ten_one _ _ rfl rfl) ?_)
  have sz1 := hqs
  generalize hW0 : ((w1.alloc (.cells #[.int .i64 3, .int .i64 0] 69)).alloc (.cells #[.string ⟨#[112, 108, 97, 110]⟩, .int .i64 1, .int .i64 0, .int .i64 100, .bool false] 71)) = W0
  have hx0 : Ext w1 W0 := by rw [← hW0]; exact Ext.alloc (Ext.alloc (Ext.refl _) _) _
  have h1 : W0.heap[w1.heap.size]? = some (.cells #[.int .i64 3, .int .i64 0] 69) := by
    rw [← hW0]; exact keep_heap (Ext.alloc (Ext.refl _) _) (heap_alloc_new w1 _)
  have h2 : W0.heap[w1.heap.size + 1]? = some (.cells #[.string ⟨#[112, 108, 97, 110]⟩, .int .i64 1, .int .i64 0, .int .i64 100, .bool false] 71) := by
    rw [← hW0]
    exact heap_at _ _ _ (World.size_alloc _ _).symm
  have hs0 : W0.heap.size = w1.heap.size + 1 + 1 := by rw [← hW0, World.size_alloc, World.size_alloc]
  clear hW0
  simp only [Act.put]
  generalize hW2 : (W0.alloc (.cells #[.string ⟨#[]⟩, .slice none 0 0, .slice none 0 0, .slice none 0 0, .int .i64 0, .int .i64 0, .string ⟨#[]⟩, .int .i64 0, .int .i64 0, .string ⟨#[]⟩, .slice none 0 0, .slice none 0 0, .int .i64 0, .slice none 0 0, .int .i64 0, .int .i64 0, .int .i64 0, .int .i64 0, .int .i64 0, .int .i64 0] 42)).setRow (w1.heap.size + 1 + 1) (tenC (.slice (some ⟨w1.heap.size, 0, none⟩) 1 1) (.slice (some ⟨w1.heap.size + 1, 0, none⟩) 1 1)) = W2
  have hx2 : Ext W0 W2 := by rw [← hW2]; exact below_setRow (Ext.alloc (Ext.refl _) _) (by omega) _
  have hT : W2.heap[w1.heap.size + 1 + 1]? = some (.cells (tenC (.slice (some ⟨w1.heap.size, 0, none⟩) 1 1) (.slice (some ⟨w1.heap.size + 1, 0, none⟩) 1 1)) 42) := by
    rw [← hW2]
    exact setRow_heap _ _ _ _ 42 _ (heap_at _ _ _ hs0.symm)
  clear hW2
  have G1 := Lib.hid (keep_heap hx2 h1)
  have G2 := Lib.hid (keep_heap hx2 h2)
  have hxw := hxw1.trans (hx0.trans hx2)
  have HQ2 := Lib.hid (keep_heap (hx0.trans hx2) HQ.out)
  have HC2 : Hid (∀ i, i < N → W2.cell? ⟨ba, oa + i, none⟩ = some (.int .u8 (f i))) := Lib.hid fun i hi => (hxw.cells.1 _ _ (World.block_lt_of_cell? w _ (HC.out i hi))).trans (HC.out i hi)
  have HT := Lib.hid hT
  have HXW := Lib.hid hxw
  clear hT hx0 hx2 h1 h2 hs0 HC HQ hxw hxw1
  obtain ⟨pl, hpl⟩ : ∃ pl, pl = w1.heap.size := ⟨_, rfl⟩
  rw [← hpl] at HT G1 G2 ⊢
  clear hqs sz1 hpl
  go_upto_region 8 with (fail)
  obtain ⟨pf, hpf⟩ : ∃ pf, pf = W2.heap.size := ⟨_, rfl⟩
  rw [← hpf]
  have HPF := Lib.hid hpf
  clear hpf
  go_loopw [38] (fun k wr => ∃ r : Nat, k = .int .i64 r ∧ r ≤ 2 ∧ Ext W2 wr ∧ Hid (wr.heap[pf]? = some (.cells #[.int .i64 (fd f N q0 q1 0 r), .int .i64 (fd f N q0 q1 1 r)] 72))) (fun k _ => 2 - (iof k).toNat)
  case atStart => exact ⟨0, rfl, by omega, Ext.alloc (Ext.refl _) _, Lib.hid (heap_at _ _ _ HPF.out)⟩
  case round =>
    obtain ⟨r, rfl, hr, hxr, HF2⟩ := hrel
    rename World => wo
    by_cases hr2 : r < 2
    · have HXR := Lib.hid hxr
      clear hxr
      go_upto_region 12 with (fail)
      have e39 : decide ((r : Int) < 2) = true := by simp; omega
      rw [e39]
      clear e39
      go_loopw [9, 43] (fun d k wz => ∃ j : Nat, k = .int .i64 j ∧ j ≤ N ∧ Ext wo wz ∧ wz.ownsRow wo.heap.size 51 2 d (duts j).length ((duts j).flatMap Dy.cs)) (fun _ k _ => N - (iof k).toNat)
      case atStart => exact ⟨0, rfl, by omega, Ext.refl _, World.ownsRow_nil _ _ _ _⟩
      case round =>
        obtain ⟨j, rfl, hj, hxj, hrow⟩ := hrel
        by_cases hjN : j < N
        · have hsz := hxj.size
          have hdl := duts_len j
          have hrow5 := row_ext hrow (Ext.alloc (Ext.refl wr) (.cells #[.int .i64 (10 + (j : Int)), .int .i64 1] 51))
          have hxj5 := hxj.trans (Ext.alloc (Ext.refl wr) (.cells #[.int .i64 (10 + (j : Int)), .int .i64 1] 51))
          have hds := duts_succ j
          go_wp2_with (at_builtin; go_loud (refine append_g (cs := Dy.cs) (z := .agg #[.int .i64 0, .int .i64 0]) 43 51 16 Try.underlying43 (by kernel_rfl) (by rfl) (by decide) (by decide) rfl _ _ rfl wo.heap.size _ (duts j) (by rfl) hrow5 wr.heap.size (mDy j) ⟨rfl, by simp [Dy.cs, mDy, Value.oneCell']⟩ (by rfl) (heap_alloc_new _ _) (by omega) (by simp; omega) ?_; intro g cap' w5 hr5 hg5 hat))
          rw [← hds] at hr5
          exact ⟨⟨j + 1, by simp, by omega, grown_ext hxj5 hrow5 (Nat.le_refl _) hg5, by rw [hdl] at hr5; simpa using hr5⟩, by simp; omega⟩
        · obtain rfl : N = j := by omega
          have hxz := HXR.out.trans hxj
          have hN := New_any [⟨3, 0⟩] [pCr] (duts N) (.slice (some ⟨pl, 0, none⟩) 1 1) (.slice (some ⟨pl + 1, 0, none⟩) 1 1) _ wr
            (sr_block (cs := Lt.cs) (sz := 2) (xs := [(⟨3, 0⟩ : Lt)]) (E := 69) (fun _ => rfl) (keep_heap hxz G1.out) (by decide)) (sr_block (cs := Cr.cs) (sz := 5) (xs := [pCr]) (E := 71) (fun _ => rfl) (keep_heap hxz G2.out) (by decide)) (SR.of_row (cs := Dy.cs) (fun _ => rfl) hrow (by rw [duts_len]; omega))
            (by intro l hl; rw [List.mem_singleton] at hl; subst hl; exact okI_small (by decide)) (by intro c hc; rw [List.mem_singleton] at hc; subst hc; exact ⟨planB_ok, okI_small (by decide), okI_small (by decide), okI_small (by decide)⟩)
            (by intro d hd; obtain ⟨k, hk, rfl⟩ := List.mem_map.1 hd; exact okD_mDy (by have := List.mem_range.1 hk; omega)) (by rw [duts_len]; omega)
          have HN := Lib.hid hN
          have HTz := Lib.hid (keep_heap hxz HT.out)
          have HXZ := Lib.hid hxz
          have HFz : Hid (wr.heap[pf]? = some (.cells #[.int .i64 (fd f N q0 q1 0 r), .int .i64 (fd f N q0 q1 1 r)] 72)) := Lib.hid (keep_heap hxj HF2.out)
          clear hN hxz hrow hxj HXR HF2
          rename World => wn
          go_upto_region 19 with (first
            | (refine wpList_load_row (hgd := rfl) 42 (.tmp 6) rfl (pl + 1 + 1) (by rfl) 42 _ _ _ HTz.out Try.underlying42 rfl (by kernel_rfl) ?_)
            | (go_at_call 8; (with_reducible refine HN.out.mono ?_); rintro e w9 ⟨p, F, rfl, hb, hF, hx9⟩))
          have hbx : BX wn w9 p (mB N) := ⟨F, hb, hF, hx9⟩
          clear hb hF hx9
          go_loopw [12, 58] (fun a k wq => ∃ (i : Nat) (b : Bk), k = .int .i64 i ∧ i ≤ N ∧ BX wn wq p b ∧ Hid (MeI N (xr f N q0 q1 r) i b) ∧ wq.ownsRow wn.heap.size 3 1 a (xsOf (xr f N q0 q1 r) i).length ((xsOf (xr f N q0 q1 r) i).flatMap celI)) (fun _ k _ => N - (iof k).toNat)
          case atStart => exact ⟨0, mB N, rfl, by omega, hbx, Lib.hid (MeI.start _ _), World.ownsRow_nil _ _ _ _⟩
          case round =>
            obtain ⟨i, b, rfl, hi, hbx, HI, hrow⟩ := hrel
            have HBX := Lib.hid hbx
            clear hbx
            have hxl := xsOf_len (xr f N q0 q1 r) i
            by_cases hiN : i < N
            · have hxw : Ext W2 wr := HXZ.out.trans HBX.out.ex
              have cq := (hxw.cells.1 _ _ (World.block_lt_of_cell? W2 _ (HC2.out i hiN))).trans (HC2.out i hiN)
              have hqb := keep_heap hxw HQ2.out
              have c0 := cell_of_row wr pq 0 _ _ _ hqb
              have c1 := cell_of_row wr pq 1 _ _ _ hqb
              have hfi := HF.out i
              have hxb := xr_bd HF.out (n := N) (q0 := q0) a1.1 r i
              have HST := Lib.hid HI.out.step
              have hol : b.old.length < 100000 := by rw [HI.out.old]; decide
              have hG := fun (wz : World) (hb : BX wn wz p b) => give_k hb (HI.out.give hiN hxb) ⟨okI_small (z := 10 + (i : Int)) (by omega), okI_small (z := 1) (by decide), okI_small (z := 3) (by decide), planB_ok, okI_small (by show -1000000 ≤ xr f N q0 q1 r i ∧ xr f N q0 q1 r i ≤ 1000000; omega), okI_small (z := 0) (by decide)⟩ hol
              obtain ⟨b', hb'⟩ : ∃ b', b' = b.put (mG i (xr f N q0 q1 r i)) := ⟨_, rfl⟩
              rw [← hb'] at HST hG
              have HXS := Lib.hid (xsOf_succ (xr f N q0 q1 r) i)
              have hX : xr f N q0 q1 r i = if r = 1 ∧ (i : Int) = q0 % N then min 100 (f i % 101 + q1) else f i % 101 := rfl
              simp only [mG, Gd.v, planB] at hG
              have hzs := HBX.out.ex.size
              clear hb' hqb hxw hol
              generalize xr f N q0 q1 r i = X at *
              generalize xsOf (xr f N q0 q1 r) i = xl at *
              generalize f i = fi at *
              have HG := Lib.hid hG
              have HX := Lib.hid hX
              clear hG hX
              go_upto_region 22 with (fail)
              clear cq
              by_cases hr1 : r = 1
              · have e1 : ((r : Int) == 1) = true := by rw [hr1]; rfl
                by_cases hiq : (i : Int) = q0 % N
                · have hXe : X = min 100 (fi % 101 + q1) := by rw [HX.out, if_pos ⟨hr1, hiq⟩]
                  have e2 : ((i : Int) == q0 % N) = true := beq_iff_eq.2 hiq
                  have HXE := Lib.hid hXe
                  clear hXe hr1 hiq
                  go_upto_region 24 with (fail)
                  rw [← HXE.out]
                  clear c0 c1 e1 e2
                  have hrow5 := row_ext hrow (Ext.alloc (Ext.refl wr) (.cells #[.int .i64 X] 3))
                  have HB5 := Lib.hid (HBX.out.ext (Ext.alloc (Ext.refl wr) (.cells #[.int .i64 X] 3)))
                  clear hrow
                  go_upto_region 25 with (at_builtin; go_loud (refine append_g (cs := celI) (z := .int .i64 0) 22 3 8 Try.underlying22 (by kernel_rfl) (by rfl) (by decide) (by decide) rfl _ _ rfl wn.heap.size _ xl (by rfl) hrow5 wr.heap.size X (celI_len _) (by rfl) (heap_alloc_new _ _) (by omega) (by simp; omega) ?_; intro g cap' w5 hr5 hg5 hat))
                  have HB6 := Lib.hid (HB5.out.turn hrow5 (by decide) (by decide) (Nat.le_refl _) hg5)
                  clear hrow5 hg5 hat HB5 HBX
                  go_wp2_with (go_at_call 11; go_loud (with_reducible refine (HG.out _ HB6.out).mono ?_); rintro e w6 ⟨rfl, hb6, hk6, hs6⟩)
                  exact ⟨⟨i + 1, b', by simp, by omega, hb6, HST, by have h9 := hk6.row hr5 (by decide) (by decide); rw [HXS.out]; simpa [hxl] using h9⟩, by simp; omega⟩
                · have hXe : X = fi % 101 := by rw [HX.out, if_neg (fun h => hiq h.2)]
                  have e2 : ((i : Int) == q0 % N) = false := by simpa using hiq
                  have HXE := Lib.hid hXe
                  clear hXe hr1 hiq
                  go_upto_region 24 with (fail)
                  rw [← HXE.out]
                  clear c0 c1 e1 e2
                  have hrow5 := row_ext hrow (Ext.alloc (Ext.refl wr) (.cells #[.int .i64 X] 3))
                  have HB5 := Lib.hid (HBX.out.ext (Ext.alloc (Ext.refl wr) (.cells #[.int .i64 X] 3)))
                  clear hrow
                  go_upto_region 25 with (at_builtin; go_loud (refine append_g (cs := celI) (z := .int .i64 0) 22 3 8 Try.underlying22 (by kernel_rfl) (by rfl) (by decide) (by decide) rfl _ _ rfl wn.heap.size _ xl (by rfl) hrow5 wr.heap.size X (celI_len _) (by rfl) (heap_alloc_new _ _) (by omega) (by simp; omega) ?_; intro g cap' w5 hr5 hg5 hat))
                  have HB6 := Lib.hid (HB5.out.turn hrow5 (by decide) (by decide) (Nat.le_refl _) hg5)
                  clear hrow5 hg5 hat HB5 HBX
                  go_wp2_with (go_at_call 11; go_loud (with_reducible refine (HG.out _ HB6.out).mono ?_); rintro e w6 ⟨rfl, hb6, hk6, hs6⟩)
                  exact ⟨⟨i + 1, b', by simp, by omega, hb6, HST, by have h9 := hk6.row hr5 (by decide) (by decide); rw [HXS.out]; simpa [hxl] using h9⟩, by simp; omega⟩
              · have e1 : ((r : Int) == 1) = false := by simp; omega
                have hXe : X = fi % 101 := by rw [HX.out, if_neg (fun h => hr1 h.1)]
                have HXE := Lib.hid hXe
                clear hXe hr1
                go_upto_region 24 with (fail)
                rw [← HXE.out]
                clear c0 c1 e1
                have hrow5 := row_ext hrow (Ext.alloc (Ext.refl wr) (.cells #[.int .i64 X] 3))
                have HB5 := Lib.hid (HBX.out.ext (Ext.alloc (Ext.refl wr) (.cells #[.int .i64 X] 3)))
                clear hrow
                go_upto_region 25 with (at_builtin; go_loud (refine append_g (cs := celI) (z := .int .i64 0) 22 3 8 Try.underlying22 (by kernel_rfl) (by rfl) (by decide) (by decide) rfl _ _ rfl wn.heap.size _ xl (by rfl) hrow5 wr.heap.size X (celI_len _) (by rfl) (heap_alloc_new _ _) (by omega) (by simp; omega) ?_; intro g cap' w5 hr5 hg5 hat))
                have HB6 := Lib.hid (HB5.out.turn hrow5 (by decide) (by decide) (Nat.le_refl _) hg5)
                clear hrow5 hg5 hat HB5 HBX
                go_wp2_with (go_at_call 11; go_loud (with_reducible refine (HG.out _ HB6.out).mono ?_); rintro e w6 ⟨rfl, hb6, hk6, hs6⟩)
                exact ⟨⟨i + 1, b', by simp, by omega, hb6, HST, by have h9 := hk6.row hr5 (by decide) (by decide); rw [HXS.out]; simpa [hxl] using h9⟩, by simp; omega⟩
            · obtain rfl : N = i := by omega
              have hxb := xr_bd HF.out (n := N) (q0 := q0) a1.1 r
              have HFE : Hid (finE b 1 = 0) := Lib.hid (HI.out.final hN0)
              have i1 : Hid (OkI 1) := Lib.hid (okI_small (by decide))
              have i3 : Hid (OkI 3) := Lib.hid (okI_small (by decide))
              have HPL : Hid (OkS ⟨#[112, 108, 97, 110]⟩) := Lib.hid planB_ok
              have HNF : Hid ((b.fine 1).fin 1 = true → hasA (b.fine 1) 1) := Lib.hid fun _ => (HI.out.me.fine 1).has hN0
              have HV : Hid (∀ m ok, ValR (b.fine 1) 1 3 ⟨#[112, 108, 97, 110]⟩ m ok → ok = true ∧ m = med (xsOf (xr f N q0 q1 r) N)) := Lib.hid fun m ok hv => HI.out.value hN0 hv
              have HMH := Lib.hid (med_half (xs := xsOf (xr f N q0 q1 r) N) (by omega))
              have HSP := Lib.hid (le_split (med (xsOf (xr f N q0 q1 r) N)) (xsOf (xr f N q0 q1 r) N)).2.2
              have HXO : Hid (∀ z ∈ xsOf (xr f N q0 q1 r) N, OkI z) := Lib.hid fun z hz => by obtain ⟨k, -, rfl⟩ := List.mem_map.1 hz; exact okI_small (by have := hxb k; omega)
              obtain ⟨rb, rc, rfl⟩ := (SR.of_row (cs := celI) (fun x => (celI_len x).1) hrow (by omega)).form
              have HFD : Hid (fd f N q0 q1 0 r = fd f N q0 q1 0 r) := Lib.hid rfl
              have HRM : Hid (r < 2 → ∀ j, fd f N q0 q1 j (r + 1) = if j = r then med (xsOf (xr f N q0 q1 r) N) else fd f N q0 q1 j r) := Lib.hid fun _ j => by
                unfold fd
                by_cases e : j = r
                · subst e; rw [if_pos (by omega), if_pos rfl]
                · rw [if_neg e]
                  by_cases e2 : j < r
                  · rw [if_pos (by omega), if_pos e2]
                  · rw [if_neg (by omega), if_neg e2]
              try rw [hxl] at hrow
              try rw [hxl]
              generalize med (xsOf (xr f N q0 q1 r) N) = M at *
              generalize xsOf (xr f N q0 q1 r) N = xl at *
              clear hxb
              go_upto_region 30 with (go_at_call 12; go_loud (with_reducible refine (final_k HBX.out HFE.out i1.out).mono ?_); rintro e w6 ⟨rfl, hb6, hk6, -⟩)
              have HB6 := Lib.hid hb6
              have HR6 := Lib.hid (ird_row (by rw [hxl]; exact hk6.row hrow (by decide) (by decide)) HXO.out (by omega))
              clear hb6 hk6 hrow HBX
              go_wp2_with (fail)
              (with_reducible refine (value_k 1 3 ⟨#[112, 108, 97, 110]⟩ HB6.out i1.out i3.out HPL.out HNF.out).mono ?_)
              rintro e w7 ⟨n1, ok1, rfl, hv, -, hb7, hx7⟩
              obtain ⟨hok, hn1⟩ := HV.out n1 ok1 hv
              subst hok
              subst n1
              have HB7 := Lib.hid hb7
              clear hv hb7 HB6 HV
              go_upto_region 33 with (fail)
              have HIV := Lib.hid (HR6.out.ext hx7)
              clear HR6 hx7
              go_loopw [18, 19, 20, 106] (fun l m e k wq => ∃ j : Nat, k = .int .i64 j ∧ j ≤ N ∧ l = .int .i64 (nLess M (xl.take j)) ∧ m = .int .i64 (nMore M (xl.take j)) ∧ e = .int .i64 (nEq M (xl.take j)) ∧ Ext w7 wq) (fun _ _ _ k _ => N - (iof k).toNat)
              case atStart => exact ⟨0, rfl, by omega, rfl, rfl, rfl, Ext.refl _⟩
              case round =>
                obtain ⟨j, rfl, hj, rfl, rfl, rfl, hxq⟩ := hrel
                by_cases hjN : j < N
                · have hjl : j < xl.length := by omega
                  obtain ⟨A', c', e1, -, -, hcell⟩ := HIV.out.ext hxq
                  injection e1 with e1 e2 e3
                  subst e1 e3
                  obtain ⟨qb, qo, rfl, hcw⟩ := hcell.resolve_left (by intro e; rw [e] at hjl; simp at hjl)
                  have cw := hcw j hjl
                  have htk : xl.take (j + 1) = xl.take j ++ [xl[j]] := by rw [List.take_add_one, List.getElem?_eq_getElem hjl]; rfl
                  have HST := Lib.hid (cnt_step M (xl.take j) xl[j])
                  rw [← htk] at HST
                  have b1 : nLess M (xl.take j) ≤ 20 := Nat.le_trans List.countP_le_length (by rw [List.length_take]; omega)
                  have b2 : nMore M (xl.take j) ≤ 20 := Nat.le_trans List.countP_le_length (by rw [List.length_take]; omega)
                  have b3 : nEq M (xl.take j) ≤ 20 := Nat.le_trans List.countP_le_length (by rw [List.length_take]; omega)
                  clear hcell hcw e2 htk
                  generalize nLess M (xl.take j) = cl at *
                  generalize nMore M (xl.take j) = cm at *
                  generalize nEq M (xl.take j) = ce at *
                  generalize xl[j] = z at *
                  clear hjl
                  obtain ⟨s1, s2, s3⟩ := HST.out
                  rcases Int.lt_trichotomy z M with hz | hz | hz
                  · rw [if_pos hz] at s1
                    rw [if_neg (by omega)] at s2 s3
                    have S := Lib.hid (And.intro s1 (And.intro s2 s3))
                    clear s1 s2 s3 HST
                    go_wp2_with (fail)
                    exact ⟨⟨j + 1, by simp, by omega, by rw [S.out.1]; simp, by rw [S.out.2.1]; rfl, by rw [S.out.2.2]; rfl, hxq⟩, by simp; omega⟩
                  · subst hz
                    rw [if_neg (by omega)] at s1 s2
                    rw [if_pos rfl] at s3
                    have S := Lib.hid (And.intro s1 (And.intro s2 s3))
                    clear s1 s2 s3 HST
                    go_wp2_with (fail)
                    exact ⟨⟨j + 1, by simp, by omega, by rw [S.out.1]; rfl, by rw [S.out.2.1]; rfl, by rw [S.out.2.2]; simp, hxq⟩, by simp; omega⟩
                  · rw [if_neg (by omega)] at s1 s3
                    rw [if_pos hz] at s2
                    have S := Lib.hid (And.intro s1 (And.intro s2 s3))
                    clear s1 s2 s3 HST
                    go_wp2_with (fail)
                    exact ⟨⟨j + 1, by simp, by omega, by rw [S.out.1]; rfl, by rw [S.out.2.1]; simp, by rw [S.out.2.2]; rfl, hxq⟩, by simp; omega⟩
                · obtain rfl : N = j := by omega
                  have htk : xl.take N = xl := List.take_of_length_le (by omega)
                  rw [htk]
                  obtain ⟨m1, m2, m3⟩ := HMH.out
                  have m4 := HSP.out
                  have hf7 := keep_heap (HB7.out.ex.trans hxq) HFz.out
                  have HXQ := Lib.hid (HXZ.out.trans (HB7.out.ex.trans hxq))
                  rw [hxl] at m2 m3 m4
                  clear htk hxq HMH HSP
                  generalize nLess M xl = cl at *
                  generalize nMore M xl = cm at *
                  generalize nEq M xl = ce at *
                  have HF7 := Lib.hid hf7
                  have d0 := cell_of_row wr pf 0 _ _ _ hf7
                  have d1 := cell_of_row wr pf 1 _ _ _ hf7
                  have f0 : wr.frozen? ⟨pf, 0, none⟩ = false := by simp [World.frozen?, hf7]
                  have f1 : wr.frozen? ⟨pf, 1, none⟩ = false := by simp [World.frozen?, hf7]
                  clear hf7
                  rcases (show r = 0 ∨ r = 1 by omega) with hr0 | hr0
                  · subst hr0
                    have e0 := HRM.out (by decide) 0
                    have e1 := HRM.out (by decide) 1
                    rw [if_pos rfl] at e0
                    rw [if_neg (by decide)] at e1
                    have E0 := Lib.hid e0
                    have E1 := Lib.hid e1
                    clear e0 e1
                    go_wp2_with (fail)
                    · exfalso
                      rename_i hbad
                      simp only [beq_iff_eq] at hbad
                      omega
                    · exact ⟨⟨0 + 1, rfl, by omega, HXQ.out.setCell (by show W2.heap.size ≤ pf; rw [HPF.out]; exact Nat.le_refl _) _, Lib.hid (by rw [E0.out, E1.out]; exact heap_setCell_same wr pf 0 _ 72 _ HF7.out)⟩, by decide⟩
                  · subst hr0
                    have e0 := HRM.out (by decide) 0
                    have e1 := HRM.out (by decide) 1
                    rw [if_neg (by decide)] at e0
                    rw [if_pos rfl] at e1
                    have E0 := Lib.hid e0
                    have E1 := Lib.hid e1
                    clear e0 e1
                    go_wp2_with (fail)
                    · exfalso
                      rename_i hbad
                      simp only [beq_iff_eq] at hbad
                      omega
                    · exact ⟨⟨1 + 1, rfl, by omega, HXQ.out.setCell (by show W2.heap.size ≤ pf; rw [HPF.out]; exact Nat.le_refl _) _, Lib.hid (by rw [E0.out, E1.out]; exact heap_setCell_same wr pf 1 _ 72 _ HF7.out)⟩, by decide⟩
    · obtain rfl : r = 2 := by omega
      have hf7 := HF2.out
      have hle : fd f N q0 q1 0 2 ≤ fd f N q0 q1 1 2 := by
        unfold fd
        rw [if_pos (by decide), if_pos (by decide)]
        exact med_mono (by rw [xsOf_len, xsOf_len]) (fun i h1 h2 => by rw [xsOf_get, xsOf_get]; exact xr_mono HF.out a1.1 i) (by rw [xsOf_len]; exact hN0)
      generalize fd f N q0 q1 0 2 = z0 at *
      generalize fd f N q0 q1 1 2 = z1 at *
      have c0 := cell_of_row wo pf 0 _ _ _ hf7
      have c1 := cell_of_row wo pf 1 _ _ _ hf7
      have HXF := Lib.hid (HXW.out.trans hxr)
      clear hf7 hxr
      go_wp2_with (fail)
      go_ret
      exact ⟨by simp, HXF.out⟩
end Go.Proofs.Ytnplnfkmcfalhaa
