/-
  InterestErrors walked. Conditions: the arguments are bytes.
-/
import Derived.Test.YtlekdhhgjhakgaaIyG
import Derived.Deep.RegionHeld3
namespace Go.Proofs.Ytlekdhhgjhakgaa
set_option linter.unusedVariables false
set_option linter.unusedSimpArgs false
open Go.RowKit
/-- 'append' of ints out of any source, as a step of a region. -/
theorem step_append_any {ops : Array Oper} {o : Oper} {a : Act} {K : Act → World → Prop} {Q : Exit → Act → World → Prop} {F : Prop} {w : World} (hgd : o.guard = none) (s x : Operand)
    (ho : o.op = .call { callee := .builtin .append, args := #[s, x], argTypes := #[22, 22] }) (B : Nat) (v : Value) (vs : List Int) (hs : a.eval s = v) (hF : w.ownsRow B 3 1 v vs.length (vs.flatMap celI))
    (A : Option Addr) (c : Nat) (us : List Int) (hx : a.eval x = .slice A us.length c) (hu : us = [] ∨ ∃ b off, A = some ⟨b, off, none⟩ ∧ ∀ k (h : k < us.length), w.cell? ⟨b, off + k, none⟩ = some (.int .i64 us[k]))
    (hn : vs.length + us.length ≤ 1000000) (hB : B ≤ w.heap.size)
    (h : ∀ v' w', w'.ownsRow B 3 1 v' (vs ++ us).length ((vs ++ us).flatMap celI) → w.grownBy w' v.ownBlock → K (a.put o.dst v') w') : if Region.wanted o (yielded ops a.tmps) = true then Oper.wp Try.prog o a w K Q else F := by
  have hw : Region.wanted o (yielded ops a.tmps) = true := by simp [Region.wanted, hgd]
  rw [if_pos hw]
  obtain ⟨i0, hi, hz0, hz1, hz2⟩ := info_parts (show (Try.prog.info? 3).map (fun i => (i.zero, i.size, i.bytes)) = some (some (.int .i64 0), 1, 8) by kernel_rfl)
  by_cases h0 : us = []
  · subst h0
    obtain ⟨base, cap, hv, hle⟩ : ∃ base cap, v = .slice base vs.length cap ∧ vs.length ≤ cap := by
      rcases hF.2 with ⟨hn, h0⟩ | ⟨g, cap', cur, hv, hb, hg, h1, h2, h3, h4⟩
      · exact ⟨none, 0, by rw [hn, h0], by omega⟩
      · exact ⟨_, cap', hv, h1⟩
    have hsrc : Src Try.prog i0.size 22 (.slice A 0 c) 0 [] w := by
      rw [hz1]
      cases A with
      | none => exact Src.ofNil w Try.underlying22 c
      | some a => exact Src.ofSlice w Try.underlying22 a 0 c _ (by simp) (by simp) (by simp)
    have hr := run_append_nothing (P := Try.prog) w 22 22 o.type 3 i0 Try.underlying22 hi base vs.length cap hle (.slice A 0 c) hsrc
    rw [← hv] at hr
    unfold Oper.wp execOp
    simp only [List.length_nil] at hx
    simp only [ho, resolve, invoke, builtin, Sem.run_bind, Sem.run_pure, Result.andThen_ok, List.map_toArray, List.map_cons, List.map_nil, hs, hx, hr]
    exact h v w (by simpa using hF) ⟨rfl, rfl, rfl, Nat.le_refl _, fun _ _ _ => rfl⟩
  · obtain ⟨b, off, rfl, hcell⟩ := hu.resolve_left h0
    have hpos : 0 < us.length := List.length_pos_iff.2 h0
    obtain ⟨g, cap', w', hr, h2, h3, h4, h5⟩ := run_append_lies (P := Try.prog) w 22 o.type B 3 i0 _ 1 8 Try.underlying22 hi hz0 hz1 hz2 rfl (by decide) v vs.length _ hF ⟨b, off, none⟩ us.length c (us.map (Value.int .i64)) (by simp)
      (by
        intro j u hu
        have hj : j < us.length := by have := (List.getElem?_eq_some_iff.1 hu).1; simpa using this
        rw [List.getElem?_eq_getElem (by simpa using hj)] at hu
        simp only [List.getElem_map, Option.some.injEq] at hu
        subst hu
        rw [Go.WideShapes.add_plain]
        exact hcell j hj) (by intro u hu; obtain ⟨z, -, rfl⟩ := List.mem_map.1 hu; rfl) hpos (by unfold maxLen; omega) (by omega) hB w.heap.size rfl
    unfold Oper.wp execOp
    simp only [ho, resolve, invoke, builtin, Sem.run_bind, Sem.run_pure, Result.andThen_ok, List.map_toArray, List.map_cons, List.map_nil, hs, hx, hr] at *
    refine h _ w' ?_ h3
    rw [List.flatMap_append, List.length_append, celI_map us]
    exact h2
set_option maxRecDepth 100000 in
set_option maxHeartbeats 8000000 in
theorem errors_walk (x y z : Int) (hx : 0 ≤ x ∧ x ≤ 255) (hy : 0 ≤ y ∧ y ≤ 255) (hz : 0 ≤ z ∧ z ≤ 255) (W : World) :
    Calls Try.prog 7 #[.int .u8 x, .int .u8 y, .int .u8 z] W fun e W' => e = .returned (.bool true) ∧ Ext W W' := by
  obtain ⟨a, ha⟩ : ∃ a : Nat, x % 8 = (a : Int) := ⟨(x % 8).toNat, by omega⟩
  obtain ⟨n, hn⟩ : ∃ n : Nat, y % 45 = (n : Int) := ⟨(y % 45).toNat, by omega⟩
  obtain ⟨k, hk⟩ : ∃ k : Nat, z % 16 = (k : Int) := ⟨(z % 16).toNat, by omega⟩
  have ha8 : a < 8 := by omega
  have hn45 : n < 45 := by omega
  have hk16 : k < 16 := by omega
  have m1 : x.tmod 8 = (a : Int) := by rw [Int.tmod_eq_emod_of_nonneg hx.1]; exact ha
  have m2 : y.tmod 45 = (n : Int) := by rw [Int.tmod_eq_emod_of_nonneg hy.1]; exact hn
  have m3 : z.tmod 16 = (k : Int) := by rw [Int.tmod_eq_emod_of_nonneg hz.1]; exact hk
  clear ha hn hk
  go_enter Try.func7, Try.ntmps7
  go_upto_region 2 with (go_at_call 11; (with_reducible refine (sanity_any _).mono ?_); rintro e w1 ⟨rfl, hx1⟩)
  have hB1 := BS.zero w1 (w0 := w1) (Ext.refl _)
  obtain ⟨D, hD⟩ : ∃ D, D = w1.heap.size := ⟨_, rfl⟩
  have HX1 := Lib.hid hx1
  clear hx1
  go_upto_region 3 with (fail)
  rw [← hD] at hB1 ⊢
  clear hD
  generalize w1.alloc (.cells #[.slice none 0 0, .int .i64 0, .slice none 0 0, .slice none 0 0, .int .i64 0, .int .i64 0] 28) = W1 at *
  have HB1 := Lib.hid hB1
  clear hB1
  go_upto_region 5 with (fail)
  go_loopw [10] (fun iv wr => ∃ (i : Nat) (ov : Value), iv = .int .i64 i ∧ i ≤ a ∧ Hid (BS w1 D wr ov (.int .i64 0) (.slice none 0 0) (.slice none 0 0) (.int .i64 0) (.int .i64 0) (errS i))) (fun iv _ => a - (iof iv).toNat)
  case atStart => exact ⟨0, _, rfl, by omega, HB1⟩
  case round =>
    obtain ⟨i, ov, rfl, hi, HZ⟩ := hrel
    clear HB1
    obtain ⟨c0, -⟩ := HZ.out.c
    have l0 := Rg.lt_of_heap HZ.out.at_
    by_cases hil : i < a
    · obtain ⟨oA, oc, rfl⟩ := row_formG HZ.out.os.ps
      have hvl : Value.slice oA (errS i).ps.length oc = Value.slice oA i oc := by rw [show (errS i).ps.length = i from errP_len i]
      simp only [hvl] at HZ c0
      clear hvl
      have hxa : Ext wr (wr.alloc (.cells #[.int .i64 (100 + (i : Int)), .int .i64 3, .int .i64 0] 50)) := Ext.alloc (Ext.refl _) _
      have HZ1 := Lib.hid (HZ.out.ext hxa)
      have hsz : w1.heap.size ≤ (wr.alloc (.cells #[.int .i64 (100 + (i : Int)), .int .i64 3, .int .i64 0] 50)).heap.size := HZ1.out.low.size
      have hel : (errS i).ps.length < 1000000 := by rw [show (errS i).ps.length = i from errP_len i]; omega
      clear hxa
      go_upto_region 6 with (at_builtin; (refine append_g (cs := Pe.cs) (z := .agg #[.int .i64 0, .int .i64 0, .int .i64 0]) 26 50 24 Try.underlying26 (by kernel_rfl) (by rfl) (by decide) (by decide) rfl (.tmp 30) (.tmp 34) rfl w1.heap.size (.slice oA i oc) (errS i).ps (by rfl) HZ1.out.os.ps wr.heap.size ⟨100 + (i : Int), 3, 0⟩ ⟨rfl, by simp [Pe.cs, Value.oneCell']⟩ (by rfl) (alloc_at wr _) hel hsz ?_; intro g7 cap7 w7 hr7 hg7 hat7; have hp7 := row_other HZ1.out.os.ps (by decide) hg7 HZ1.out.at_; have f7 : w7.frozen? ⟨D, 0, none⟩ = false := tab_frozen hp7; have c7 := cell_of_row w7 D 0 _ _ _ hp7; change w7.cell? _ = some (.slice oA i oc) at c7))
      have HN := Lib.hid (HZ1.out.pushP (p := ⟨100 + (i : Int), 3, 0⟩) hg7 hr7 (by
        have := errS_ok (i + 1) (by omega)
        unfold errS at this
        rw [errP_succ] at this
        exact this))
      clear hr7 hg7 hat7 hp7 f7 c7 HZ1
      go_wp2_with (fail)
      exact ⟨⟨i + 1, _, by simp, by omega, Lib.hid (by unfold errS; rw [errP_succ]; exact HN.out)⟩, by simp [iof]; omega⟩
    · obtain rfl : i = a := by omega
      have HZS := Lib.hid HZ.out
      go_upto_region 11 with (fail)
      go_loopw [11, 13] (fun bv jv wq => ∃ j : Nat, jv = .int .i64 j ∧ j ≤ n ∧ Hid (wq.ownsRow wr.heap.size 3 1 bv (errB j).length ((errB j).flatMap celI)) ∧ Hid (Ext wr wq)) (fun _ jv _ => n - (iof jv).toNat)
      case atStart => exact ⟨0, rfl, by omega, Lib.hid ⟨rfl, .inl ⟨rfl, rfl⟩⟩, Lib.hid (Ext.refl _)⟩
      case round =>
        rename World => wq
        obtain ⟨j, rfl, hj, HR, HX⟩ := hrel
        obtain ⟨bA, bc, rfl⟩ := row_formG HR.out
        by_cases hjn : j < n
        · have hxa : Ext wq (wq.alloc (.cells #[.int .i64 (1 + (j : Int))] 3)) := Ext.alloc (Ext.refl _) _
          have HR1 := Lib.hid (row_ext HR.out hxa); have HX1 := Lib.hid (HX.out.trans hxa)
          have hsz : wr.heap.size ≤ (wq.alloc (.cells #[.int .i64 (1 + (j : Int))] 3)).heap.size := HX1.out.size
          have hel : (errB j).length < 1000000 := by rw [errB_len]; omega
          clear hxa
          go_upto_region 12 with (at_builtin; (refine append_g (cs := celI) (z := .int .i64 0) 22 3 8 Try.underlying22 (by kernel_rfl) (by rfl) (by decide) (by decide) rfl (.tmp 45) (.tmp 48) rfl wr.heap.size (.slice bA (errB j).length bc) (errB j) (by rfl) HR1.out wq.heap.size (1 + (j : Int)) (celI_len _) (by rfl) (alloc_at wq _) hel hsz ?_; intro g7 cap7 w7 hr7 hg7 hat7))
          have HX7 := Lib.hid (row_grown HX1.out HR1.out (Nat.le_refl _) hg7)
          have HR7 := Lib.hid hr7
          clear hr7 hg7 hat7 HR1 HX1
          go_wp2_with (fail)
          exact ⟨⟨j + 1, by simp, by omega, Lib.hid (by rw [errB_succ]; exact HR7.out), HX7⟩, by simp [iof]; omega⟩
        · obtain rfl : j = n := by omega
          have HB := Lib.hid (ird_row HR.out (errB_ok j (by omega)) (by rw [errB_len]; omega))
          have HZ2 := Lib.hid (HZS.out.ext HX.out)
          have HXW : Hid (Ext W wq) := Lib.hid (HX1.out.trans HZ2.out.low)
          have hvl : Value.slice bA (errB j).length bc = Value.slice bA j bc := by rw [errB_len]
          rw [hvl] at HB ⊢
          clear hvl HR HX HZS HZ c0 l0 HX1
          have HEO := Lib.hid (err_open i j k (by omega))
          obtain ⟨oA, oc, rfl⟩ := row_formG HZ2.out.os.ps
          by_cases h1 : (j : Int) < 1
          · skip
            have HOE : Hid (openE (errS i) (errB j) k = 1) := Lib.hid (by rw [HEO.out]; exact if_pos (by omega))
            clear HEO
            have HAS : Hid (Calls Try.prog 19 #[.agg #[.slice oA (errS i).ps.length oc, .int .i64 0, .slice none 0 0, .slice none 0 0, .int .i64 0, .int .i64 0], .slice bA j bc, .int .i64 k] wq fun e w' => e = .returned (.tuple #[.slice none 0 0, .int .i64 1]) ∧ Ext wq w') := Lib.hid (Calls.mono (Assign_any _ _ _ _ _ _ _ (errS i) (errB j) k wq HZ2.out.os.su HB.out (by rw [errB_len]; omega)) fun e w' ⟨v, h1, h2, h3, h4⟩ => by
              rw [HOE.out] at h1 h3 h4
              (exact ⟨by rw [h1, h4 (by decide)], h2⟩))
            obtain ⟨c0, c1, c2, c3, c4, c5⟩ := HZ2.out.c
            go_upto_region 21 with (go_at_call 19; (with_reducible refine HAS.out.mono ?_); rintro e w5 ⟨rfl, hx5⟩)
            clear c0 c1 c2 c3 c4 c5
            have HX5 := Lib.hid hx5
            have HSS : Hid (∀ wz, Ext w5 wz → wz.cell? ⟨D, 0, none⟩ = some (.slice oA (errS i).ps.length oc) ∧ wz.cell? ⟨D, 1, none⟩ = some (.int .i64 0) ∧ wz.cell? ⟨D, 2, none⟩ = some (.slice none 0 0) ∧ wz.cell? ⟨D, 3, none⟩ = some (.slice none 0 0) ∧ wz.cell? ⟨D, 4, none⟩ = some (.int .i64 0) ∧ wz.cell? ⟨D, 5, none⟩ = some (.int .i64 0)) := Lib.hid fun wz hz => (HZ2.out.ext (HX5.out.trans hz)).c
            have HBX : Hid (∀ wz, Ext w5 wz → errB j = [] ∨ ∃ b off, bA = some ⟨b, off, none⟩ ∧ ∀ k (h : k < (errB j).length), wz.cell? ⟨b, off + k, none⟩ = some (.int .i64 (errB j)[k])) := Lib.hid fun wz hz => by
              obtain ⟨A', c', h1, -, -, h4⟩ := HB.out.ext (HX5.out.trans hz)
              injection h1 with h1
              subst h1
              exact h4
            have HA2 : Hid (∀ v wz, Ext w5 wz → wz.ownsRow w5.heap.size 3 1 v ([] ++ errB j ++ errB j).length (([] ++ errB j ++ errB j).flatMap celI) → Calls Try.prog 19 #[.agg #[.slice oA (errS i).ps.length oc, .int .i64 0, .slice none 0 0, .slice none 0 0, .int .i64 0, .int .i64 0], v, .int .i64 k] wz fun e w' => e = .returned (.tuple #[.slice none 0 0, .int .i64 1]) ∧ Ext wz w') := Lib.hid fun v wz hz hr => by
              have hird : IRd wz v (errB j ++ errB j) := by
                have h9 := ird_row hr (fun z hz => by
                  rw [List.nil_append] at hz
                  rcases List.mem_append.1 hz with hz | hz <;> exact errB_ok j (by omega) z hz) (by simp [errB_len]; omega)
                rwa [List.nil_append] at h9
              refine Calls.mono (Assign_any _ _ _ _ _ _ _ (errS i) (errB j ++ errB j) k wz (HZ2.out.os.su.ext (HX5.out.trans hz)) hird (by simp [errB_len]; omega)) fun e w' ⟨v, h1, h2, h3, h4⟩ => ?_
              rw [err_open2] at h1 h3 h4
              exact ⟨by rw [h1, h4 (by decide)], h2⟩
            obtain ⟨s0, s1, s2, s3, s4, s5⟩ := HSS.out w5 (Ext.refl _)
            clear hx5 HAS
            go_region_held3 (fun w' => w'.cell? ⟨D, 0, none⟩ = some (.slice oA (errS i).ps.length oc) ∧ w'.cell? ⟨D, 1, none⟩ = some (.int .i64 0) ∧ w'.cell? ⟨D, 2, none⟩ = some (.slice none 0 0) ∧ w'.cell? ⟨D, 3, none⟩ = some (.slice none 0 0) ∧ w'.cell? ⟨D, 4, none⟩ = some (.int .i64 0) ∧ w'.cell? ⟨D, 5, none⟩ = some (.int .i64 0))
              (first | exact HSS.out _ (by with_reducible repeat (first | exact Ext.refl _ | assumption | apply Ext.drewN | apply Ext.drew | apply Ext.alloc | (refine Ext.setCell ?_ (by simp <;> omega) _) | (refine Ext.trans ?_ (by assumption)))) | go_keep)
              (first
                | (go_at_call 19; (with_reducible refine (HA2.out v7 w7 hx7 hr7).mono ?_); rintro e w8 ⟨rfl, hx8⟩)
                | (refine step_append_any rfl (.tmp 83) (.tmp 84) rfl w5.heap.size v6 ([] ++ errB j) (by simp [Act.eval, Act.put]) hr6 bA bc (errB j) (by simp [Act.eval, Act.put, errB_len]) (HBX.out _ (by with_reducible repeat (first | exact Ext.refl _ | assumption | apply Ext.drewN | apply Ext.drew | apply Ext.alloc | (refine Ext.setCell ?_ (by simp <;> omega) _) | (refine Ext.trans ?_ (by assumption))))) (by simp [errB_len]; omega) (ext_size (by with_reducible repeat (first | exact Ext.refl _ | assumption | apply Ext.drewN | apply Ext.drew | apply Ext.alloc | (refine Ext.setCell ?_ (by simp <;> omega) _) | (refine Ext.trans ?_ (by assumption))))) ?_; intro v7 w7 hr7 hg7; have hx7 : Ext w5 w7 := row_grown (by with_reducible repeat (first | exact Ext.refl _ | assumption | apply Ext.drewN | apply Ext.drew | apply Ext.alloc | (refine Ext.setCell ?_ (by simp <;> omega) _) | (refine Ext.trans ?_ (by assumption)))) hr6 (Nat.le_refl _) hg7)
                | (refine step_append_any rfl (.tmp 81) (.tmp 82) rfl w5.heap.size (.slice (some ⟨w5.heap.size, 0, none⟩) 0 0) [] (by simp [Act.eval, Act.put]) (own_lit (n := 0) (sz := 1) (xs := []) (Nat.le_refl _) (alloc_at w5.drew _) rfl (by decide)) bA bc (errB j) (by simp [Act.eval, Act.put, errB_len]) (HBX.out _ (by with_reducible repeat (first | exact Ext.refl _ | assumption | apply Ext.drewN | apply Ext.drew | apply Ext.alloc | (refine Ext.setCell ?_ (by simp <;> omega) _) | (refine Ext.trans ?_ (by assumption))))) (by simp [errB_len]; omega) (ext_size (by with_reducible repeat (first | exact Ext.refl _ | assumption | apply Ext.drewN | apply Ext.drew | apply Ext.alloc | (refine Ext.setCell ?_ (by simp <;> omega) _) | (refine Ext.trans ?_ (by assumption))))) ?_; intro v6 w6 hr6 hg6; have hx6 : Ext w5 w6 := row_grown (by with_reducible repeat (first | exact Ext.refl _ | assumption | apply Ext.drewN | apply Ext.drew | apply Ext.alloc | (refine Ext.setCell ?_ (by simp <;> omega) _) | (refine Ext.trans ?_ (by assumption)))) (own_lit (n := 0) (sz := 1) (xs := []) (Nat.le_refl _) (alloc_at w5.drew _) rfl (by decide)) (Nat.le_refl _) hg6))
            have HX8 : Hid (Ext W w8) := Lib.hid (HXW.out.trans (HX5.out.trans (hx7.trans hx8)))
            clear hx6 hx7 hx8 hr6 hg6 hr7 hg7 HA2 HBX HSS s0 s1 s2 s3 s4 s5
            go_upto_region 24 with (fail)
            go_quiet (fail)
            go_wp2_with (fail)
            go_ret
            exact ⟨rfl, HX8.out.trans (by with_reducible repeat (first | exact Ext.refl _ | assumption | apply Ext.drewN | apply Ext.drew | apply Ext.alloc | (refine Ext.setCell ?_ (by simp <;> omega) _) | (refine Ext.trans ?_ (by assumption))))⟩
          · by_cases h2 : (40 : Int) < (j : Int)
            · skip
              have HOE : Hid (openE (errS i) (errB j) k = 1) := Lib.hid (by rw [HEO.out]; exact if_pos (by omega))
              clear HEO
              have HAS : Hid (Calls Try.prog 19 #[.agg #[.slice oA (errS i).ps.length oc, .int .i64 0, .slice none 0 0, .slice none 0 0, .int .i64 0, .int .i64 0], .slice bA j bc, .int .i64 k] wq fun e w' => e = .returned (.tuple #[.slice none 0 0, .int .i64 1]) ∧ Ext wq w') := Lib.hid (Calls.mono (Assign_any _ _ _ _ _ _ _ (errS i) (errB j) k wq HZ2.out.os.su HB.out (by rw [errB_len]; omega)) fun e w' ⟨v, h1, h2, h3, h4⟩ => by
                rw [HOE.out] at h1 h3 h4
                (exact ⟨by rw [h1, h4 (by decide)], h2⟩))
              obtain ⟨c0, c1, c2, c3, c4, c5⟩ := HZ2.out.c
              go_upto_region 21 with (go_at_call 19; (with_reducible refine HAS.out.mono ?_); rintro e w5 ⟨rfl, hx5⟩)
              clear c0 c1 c2 c3 c4 c5
              have HX5 := Lib.hid hx5
              have HSS : Hid (∀ wz, Ext w5 wz → wz.cell? ⟨D, 0, none⟩ = some (.slice oA (errS i).ps.length oc) ∧ wz.cell? ⟨D, 1, none⟩ = some (.int .i64 0) ∧ wz.cell? ⟨D, 2, none⟩ = some (.slice none 0 0) ∧ wz.cell? ⟨D, 3, none⟩ = some (.slice none 0 0) ∧ wz.cell? ⟨D, 4, none⟩ = some (.int .i64 0) ∧ wz.cell? ⟨D, 5, none⟩ = some (.int .i64 0)) := Lib.hid fun wz hz => (HZ2.out.ext (HX5.out.trans hz)).c
              have HBX : Hid (∀ wz, Ext w5 wz → errB j = [] ∨ ∃ b off, bA = some ⟨b, off, none⟩ ∧ ∀ k (h : k < (errB j).length), wz.cell? ⟨b, off + k, none⟩ = some (.int .i64 (errB j)[k])) := Lib.hid fun wz hz => by
                obtain ⟨A', c', h1, -, -, h4⟩ := HB.out.ext (HX5.out.trans hz)
                injection h1 with h1
                subst h1
                exact h4
              have HA2 : Hid (∀ v wz, Ext w5 wz → wz.ownsRow w5.heap.size 3 1 v ([] ++ errB j ++ errB j).length (([] ++ errB j ++ errB j).flatMap celI) → Calls Try.prog 19 #[.agg #[.slice oA (errS i).ps.length oc, .int .i64 0, .slice none 0 0, .slice none 0 0, .int .i64 0, .int .i64 0], v, .int .i64 k] wz fun e w' => e = .returned (.tuple #[.slice none 0 0, .int .i64 1]) ∧ Ext wz w') := Lib.hid fun v wz hz hr => by
                have hird : IRd wz v (errB j ++ errB j) := by
                  have h9 := ird_row hr (fun z hz => by
                    rw [List.nil_append] at hz
                    rcases List.mem_append.1 hz with hz | hz <;> exact errB_ok j (by omega) z hz) (by simp [errB_len]; omega)
                  rwa [List.nil_append] at h9
                refine Calls.mono (Assign_any _ _ _ _ _ _ _ (errS i) (errB j ++ errB j) k wz (HZ2.out.os.su.ext (HX5.out.trans hz)) hird (by simp [errB_len]; omega)) fun e w' ⟨v, h1, h2, h3, h4⟩ => ?_
                rw [err_open2] at h1 h3 h4
                exact ⟨by rw [h1, h4 (by decide)], h2⟩
              obtain ⟨s0, s1, s2, s3, s4, s5⟩ := HSS.out w5 (Ext.refl _)
              clear hx5 HAS
              go_region_held3 (fun w' => w'.cell? ⟨D, 0, none⟩ = some (.slice oA (errS i).ps.length oc) ∧ w'.cell? ⟨D, 1, none⟩ = some (.int .i64 0) ∧ w'.cell? ⟨D, 2, none⟩ = some (.slice none 0 0) ∧ w'.cell? ⟨D, 3, none⟩ = some (.slice none 0 0) ∧ w'.cell? ⟨D, 4, none⟩ = some (.int .i64 0) ∧ w'.cell? ⟨D, 5, none⟩ = some (.int .i64 0))
                (first | exact HSS.out _ (by with_reducible repeat (first | exact Ext.refl _ | assumption | apply Ext.drewN | apply Ext.drew | apply Ext.alloc | (refine Ext.setCell ?_ (by simp <;> omega) _) | (refine Ext.trans ?_ (by assumption)))) | go_keep)
                (first
                  | (go_at_call 19; (with_reducible refine (HA2.out v7 w7 hx7 hr7).mono ?_); rintro e w8 ⟨rfl, hx8⟩)
                  | (refine step_append_any rfl (.tmp 83) (.tmp 84) rfl w5.heap.size v6 ([] ++ errB j) (by simp [Act.eval, Act.put]) hr6 bA bc (errB j) (by simp [Act.eval, Act.put, errB_len]) (HBX.out _ (by with_reducible repeat (first | exact Ext.refl _ | assumption | apply Ext.drewN | apply Ext.drew | apply Ext.alloc | (refine Ext.setCell ?_ (by simp <;> omega) _) | (refine Ext.trans ?_ (by assumption))))) (by simp [errB_len]; omega) (ext_size (by with_reducible repeat (first | exact Ext.refl _ | assumption | apply Ext.drewN | apply Ext.drew | apply Ext.alloc | (refine Ext.setCell ?_ (by simp <;> omega) _) | (refine Ext.trans ?_ (by assumption))))) ?_; intro v7 w7 hr7 hg7; have hx7 : Ext w5 w7 := row_grown (by with_reducible repeat (first | exact Ext.refl _ | assumption | apply Ext.drewN | apply Ext.drew | apply Ext.alloc | (refine Ext.setCell ?_ (by simp <;> omega) _) | (refine Ext.trans ?_ (by assumption)))) hr6 (Nat.le_refl _) hg7)
                  | (refine step_append_any rfl (.tmp 81) (.tmp 82) rfl w5.heap.size (.slice (some ⟨w5.heap.size, 0, none⟩) 0 0) [] (by simp [Act.eval, Act.put]) (own_lit (n := 0) (sz := 1) (xs := []) (Nat.le_refl _) (alloc_at w5.drew _) rfl (by decide)) bA bc (errB j) (by simp [Act.eval, Act.put, errB_len]) (HBX.out _ (by with_reducible repeat (first | exact Ext.refl _ | assumption | apply Ext.drewN | apply Ext.drew | apply Ext.alloc | (refine Ext.setCell ?_ (by simp <;> omega) _) | (refine Ext.trans ?_ (by assumption))))) (by simp [errB_len]; omega) (ext_size (by with_reducible repeat (first | exact Ext.refl _ | assumption | apply Ext.drewN | apply Ext.drew | apply Ext.alloc | (refine Ext.setCell ?_ (by simp <;> omega) _) | (refine Ext.trans ?_ (by assumption))))) ?_; intro v6 w6 hr6 hg6; have hx6 : Ext w5 w6 := row_grown (by with_reducible repeat (first | exact Ext.refl _ | assumption | apply Ext.drewN | apply Ext.drew | apply Ext.alloc | (refine Ext.setCell ?_ (by simp <;> omega) _) | (refine Ext.trans ?_ (by assumption)))) (own_lit (n := 0) (sz := 1) (xs := []) (Nat.le_refl _) (alloc_at w5.drew _) rfl (by decide)) (Nat.le_refl _) hg6))
              have HX8 : Hid (Ext W w8) := Lib.hid (HXW.out.trans (HX5.out.trans (hx7.trans hx8)))
              clear hx6 hx7 hx8 hr6 hg6 hr7 hg7 HA2 HBX HSS s0 s1 s2 s3 s4 s5
              go_upto_region 24 with (fail)
              go_quiet (fail)
              go_wp2_with (fail)
              go_ret
              exact ⟨rfl, HX8.out.trans (by with_reducible repeat (first | exact Ext.refl _ | assumption | apply Ext.drewN | apply Ext.drew | apply Ext.alloc | (refine Ext.setCell ?_ (by simp <;> omega) _) | (refine Ext.trans ?_ (by assumption))))⟩
            · by_cases h3 : (k : Int) < 1
              · skip
                have HOE : Hid (openE (errS i) (errB j) k = 1) := Lib.hid (by rw [HEO.out]; exact if_pos (by omega))
                clear HEO
                have HAS : Hid (Calls Try.prog 19 #[.agg #[.slice oA (errS i).ps.length oc, .int .i64 0, .slice none 0 0, .slice none 0 0, .int .i64 0, .int .i64 0], .slice bA j bc, .int .i64 k] wq fun e w' => e = .returned (.tuple #[.slice none 0 0, .int .i64 1]) ∧ Ext wq w') := Lib.hid (Calls.mono (Assign_any _ _ _ _ _ _ _ (errS i) (errB j) k wq HZ2.out.os.su HB.out (by rw [errB_len]; omega)) fun e w' ⟨v, h1, h2, h3, h4⟩ => by
                  rw [HOE.out] at h1 h3 h4
                  (exact ⟨by rw [h1, h4 (by decide)], h2⟩))
                obtain ⟨c0, c1, c2, c3, c4, c5⟩ := HZ2.out.c
                go_upto_region 21 with (go_at_call 19; (with_reducible refine HAS.out.mono ?_); rintro e w5 ⟨rfl, hx5⟩)
                clear c0 c1 c2 c3 c4 c5
                have HX5 := Lib.hid hx5
                have HSS : Hid (∀ wz, Ext w5 wz → wz.cell? ⟨D, 0, none⟩ = some (.slice oA (errS i).ps.length oc) ∧ wz.cell? ⟨D, 1, none⟩ = some (.int .i64 0) ∧ wz.cell? ⟨D, 2, none⟩ = some (.slice none 0 0) ∧ wz.cell? ⟨D, 3, none⟩ = some (.slice none 0 0) ∧ wz.cell? ⟨D, 4, none⟩ = some (.int .i64 0) ∧ wz.cell? ⟨D, 5, none⟩ = some (.int .i64 0)) := Lib.hid fun wz hz => (HZ2.out.ext (HX5.out.trans hz)).c
                have HBX : Hid (∀ wz, Ext w5 wz → errB j = [] ∨ ∃ b off, bA = some ⟨b, off, none⟩ ∧ ∀ k (h : k < (errB j).length), wz.cell? ⟨b, off + k, none⟩ = some (.int .i64 (errB j)[k])) := Lib.hid fun wz hz => by
                  obtain ⟨A', c', h1, -, -, h4⟩ := HB.out.ext (HX5.out.trans hz)
                  injection h1 with h1
                  subst h1
                  exact h4
                have HA2 : Hid (∀ v wz, Ext w5 wz → wz.ownsRow w5.heap.size 3 1 v ([] ++ errB j ++ errB j).length (([] ++ errB j ++ errB j).flatMap celI) → Calls Try.prog 19 #[.agg #[.slice oA (errS i).ps.length oc, .int .i64 0, .slice none 0 0, .slice none 0 0, .int .i64 0, .int .i64 0], v, .int .i64 k] wz fun e w' => e = .returned (.tuple #[.slice none 0 0, .int .i64 1]) ∧ Ext wz w') := Lib.hid fun v wz hz hr => by
                  have hird : IRd wz v (errB j ++ errB j) := by
                    have h9 := ird_row hr (fun z hz => by
                      rw [List.nil_append] at hz
                      rcases List.mem_append.1 hz with hz | hz <;> exact errB_ok j (by omega) z hz) (by simp [errB_len]; omega)
                    rwa [List.nil_append] at h9
                  refine Calls.mono (Assign_any _ _ _ _ _ _ _ (errS i) (errB j ++ errB j) k wz (HZ2.out.os.su.ext (HX5.out.trans hz)) hird (by simp [errB_len]; omega)) fun e w' ⟨v, h1, h2, h3, h4⟩ => ?_
                  rw [err_open2] at h1 h3 h4
                  exact ⟨by rw [h1, h4 (by decide)], h2⟩
                obtain ⟨s0, s1, s2, s3, s4, s5⟩ := HSS.out w5 (Ext.refl _)
                clear hx5 HAS
                go_region_held3 (fun w' => w'.cell? ⟨D, 0, none⟩ = some (.slice oA (errS i).ps.length oc) ∧ w'.cell? ⟨D, 1, none⟩ = some (.int .i64 0) ∧ w'.cell? ⟨D, 2, none⟩ = some (.slice none 0 0) ∧ w'.cell? ⟨D, 3, none⟩ = some (.slice none 0 0) ∧ w'.cell? ⟨D, 4, none⟩ = some (.int .i64 0) ∧ w'.cell? ⟨D, 5, none⟩ = some (.int .i64 0))
                  (first | exact HSS.out _ (by with_reducible repeat (first | exact Ext.refl _ | assumption | apply Ext.drewN | apply Ext.drew | apply Ext.alloc | (refine Ext.setCell ?_ (by simp <;> omega) _) | (refine Ext.trans ?_ (by assumption)))) | go_keep)
                  (first
                    | (go_at_call 19; (with_reducible refine (HA2.out v7 w7 hx7 hr7).mono ?_); rintro e w8 ⟨rfl, hx8⟩)
                    | (refine step_append_any rfl (.tmp 83) (.tmp 84) rfl w5.heap.size v6 ([] ++ errB j) (by simp [Act.eval, Act.put]) hr6 bA bc (errB j) (by simp [Act.eval, Act.put, errB_len]) (HBX.out _ (by with_reducible repeat (first | exact Ext.refl _ | assumption | apply Ext.drewN | apply Ext.drew | apply Ext.alloc | (refine Ext.setCell ?_ (by simp <;> omega) _) | (refine Ext.trans ?_ (by assumption))))) (by simp [errB_len]; omega) (ext_size (by with_reducible repeat (first | exact Ext.refl _ | assumption | apply Ext.drewN | apply Ext.drew | apply Ext.alloc | (refine Ext.setCell ?_ (by simp <;> omega) _) | (refine Ext.trans ?_ (by assumption))))) ?_; intro v7 w7 hr7 hg7; have hx7 : Ext w5 w7 := row_grown (by with_reducible repeat (first | exact Ext.refl _ | assumption | apply Ext.drewN | apply Ext.drew | apply Ext.alloc | (refine Ext.setCell ?_ (by simp <;> omega) _) | (refine Ext.trans ?_ (by assumption)))) hr6 (Nat.le_refl _) hg7)
                    | (refine step_append_any rfl (.tmp 81) (.tmp 82) rfl w5.heap.size (.slice (some ⟨w5.heap.size, 0, none⟩) 0 0) [] (by simp [Act.eval, Act.put]) (own_lit (n := 0) (sz := 1) (xs := []) (Nat.le_refl _) (alloc_at w5.drew _) rfl (by decide)) bA bc (errB j) (by simp [Act.eval, Act.put, errB_len]) (HBX.out _ (by with_reducible repeat (first | exact Ext.refl _ | assumption | apply Ext.drewN | apply Ext.drew | apply Ext.alloc | (refine Ext.setCell ?_ (by simp <;> omega) _) | (refine Ext.trans ?_ (by assumption))))) (by simp [errB_len]; omega) (ext_size (by with_reducible repeat (first | exact Ext.refl _ | assumption | apply Ext.drewN | apply Ext.drew | apply Ext.alloc | (refine Ext.setCell ?_ (by simp <;> omega) _) | (refine Ext.trans ?_ (by assumption))))) ?_; intro v6 w6 hr6 hg6; have hx6 : Ext w5 w6 := row_grown (by with_reducible repeat (first | exact Ext.refl _ | assumption | apply Ext.drewN | apply Ext.drew | apply Ext.alloc | (refine Ext.setCell ?_ (by simp <;> omega) _) | (refine Ext.trans ?_ (by assumption)))) (own_lit (n := 0) (sz := 1) (xs := []) (Nat.le_refl _) (alloc_at w5.drew _) rfl (by decide)) (Nat.le_refl _) hg6))
                have HX8 : Hid (Ext W w8) := Lib.hid (HXW.out.trans (HX5.out.trans (hx7.trans hx8)))
                clear hx6 hx7 hx8 hr6 hg6 hr7 hg7 HA2 HBX HSS s0 s1 s2 s3 s4 s5
                go_upto_region 24 with (fail)
                go_quiet (fail)
                go_wp2_with (fail)
                go_ret
                exact ⟨rfl, HX8.out.trans (by with_reducible repeat (first | exact Ext.refl _ | assumption | apply Ext.drewN | apply Ext.drew | apply Ext.alloc | (refine Ext.setCell ?_ (by simp <;> omega) _) | (refine Ext.trans ?_ (by assumption))))⟩
              · by_cases h4 : (13 : Int) < (k : Int)
                · skip
                  have HOE : Hid (openE (errS i) (errB j) k = 1) := Lib.hid (by rw [HEO.out]; exact if_pos (by omega))
                  clear HEO
                  have HAS : Hid (Calls Try.prog 19 #[.agg #[.slice oA (errS i).ps.length oc, .int .i64 0, .slice none 0 0, .slice none 0 0, .int .i64 0, .int .i64 0], .slice bA j bc, .int .i64 k] wq fun e w' => e = .returned (.tuple #[.slice none 0 0, .int .i64 1]) ∧ Ext wq w') := Lib.hid (Calls.mono (Assign_any _ _ _ _ _ _ _ (errS i) (errB j) k wq HZ2.out.os.su HB.out (by rw [errB_len]; omega)) fun e w' ⟨v, h1, h2, h3, h4⟩ => by
                    rw [HOE.out] at h1 h3 h4
                    (exact ⟨by rw [h1, h4 (by decide)], h2⟩))
                  obtain ⟨c0, c1, c2, c3, c4, c5⟩ := HZ2.out.c
                  go_upto_region 21 with (go_at_call 19; (with_reducible refine HAS.out.mono ?_); rintro e w5 ⟨rfl, hx5⟩)
                  clear c0 c1 c2 c3 c4 c5
                  have HX5 := Lib.hid hx5
                  have HSS : Hid (∀ wz, Ext w5 wz → wz.cell? ⟨D, 0, none⟩ = some (.slice oA (errS i).ps.length oc) ∧ wz.cell? ⟨D, 1, none⟩ = some (.int .i64 0) ∧ wz.cell? ⟨D, 2, none⟩ = some (.slice none 0 0) ∧ wz.cell? ⟨D, 3, none⟩ = some (.slice none 0 0) ∧ wz.cell? ⟨D, 4, none⟩ = some (.int .i64 0) ∧ wz.cell? ⟨D, 5, none⟩ = some (.int .i64 0)) := Lib.hid fun wz hz => (HZ2.out.ext (HX5.out.trans hz)).c
                  have HBX : Hid (∀ wz, Ext w5 wz → errB j = [] ∨ ∃ b off, bA = some ⟨b, off, none⟩ ∧ ∀ k (h : k < (errB j).length), wz.cell? ⟨b, off + k, none⟩ = some (.int .i64 (errB j)[k])) := Lib.hid fun wz hz => by
                    obtain ⟨A', c', h1, -, -, h4⟩ := HB.out.ext (HX5.out.trans hz)
                    injection h1 with h1
                    subst h1
                    exact h4
                  have HA2 : Hid (∀ v wz, Ext w5 wz → wz.ownsRow w5.heap.size 3 1 v ([] ++ errB j ++ errB j).length (([] ++ errB j ++ errB j).flatMap celI) → Calls Try.prog 19 #[.agg #[.slice oA (errS i).ps.length oc, .int .i64 0, .slice none 0 0, .slice none 0 0, .int .i64 0, .int .i64 0], v, .int .i64 k] wz fun e w' => e = .returned (.tuple #[.slice none 0 0, .int .i64 1]) ∧ Ext wz w') := Lib.hid fun v wz hz hr => by
                    have hird : IRd wz v (errB j ++ errB j) := by
                      have h9 := ird_row hr (fun z hz => by
                        rw [List.nil_append] at hz
                        rcases List.mem_append.1 hz with hz | hz <;> exact errB_ok j (by omega) z hz) (by simp [errB_len]; omega)
                      rwa [List.nil_append] at h9
                    refine Calls.mono (Assign_any _ _ _ _ _ _ _ (errS i) (errB j ++ errB j) k wz (HZ2.out.os.su.ext (HX5.out.trans hz)) hird (by simp [errB_len]; omega)) fun e w' ⟨v, h1, h2, h3, h4⟩ => ?_
                    rw [err_open2] at h1 h3 h4
                    exact ⟨by rw [h1, h4 (by decide)], h2⟩
                  obtain ⟨s0, s1, s2, s3, s4, s5⟩ := HSS.out w5 (Ext.refl _)
                  clear hx5 HAS
                  go_region_held3 (fun w' => w'.cell? ⟨D, 0, none⟩ = some (.slice oA (errS i).ps.length oc) ∧ w'.cell? ⟨D, 1, none⟩ = some (.int .i64 0) ∧ w'.cell? ⟨D, 2, none⟩ = some (.slice none 0 0) ∧ w'.cell? ⟨D, 3, none⟩ = some (.slice none 0 0) ∧ w'.cell? ⟨D, 4, none⟩ = some (.int .i64 0) ∧ w'.cell? ⟨D, 5, none⟩ = some (.int .i64 0))
                    (first | exact HSS.out _ (by with_reducible repeat (first | exact Ext.refl _ | assumption | apply Ext.drewN | apply Ext.drew | apply Ext.alloc | (refine Ext.setCell ?_ (by simp <;> omega) _) | (refine Ext.trans ?_ (by assumption)))) | go_keep)
                    (first
                      | (go_at_call 19; (with_reducible refine (HA2.out v7 w7 hx7 hr7).mono ?_); rintro e w8 ⟨rfl, hx8⟩)
                      | (refine step_append_any rfl (.tmp 83) (.tmp 84) rfl w5.heap.size v6 ([] ++ errB j) (by simp [Act.eval, Act.put]) hr6 bA bc (errB j) (by simp [Act.eval, Act.put, errB_len]) (HBX.out _ (by with_reducible repeat (first | exact Ext.refl _ | assumption | apply Ext.drewN | apply Ext.drew | apply Ext.alloc | (refine Ext.setCell ?_ (by simp <;> omega) _) | (refine Ext.trans ?_ (by assumption))))) (by simp [errB_len]; omega) (ext_size (by with_reducible repeat (first | exact Ext.refl _ | assumption | apply Ext.drewN | apply Ext.drew | apply Ext.alloc | (refine Ext.setCell ?_ (by simp <;> omega) _) | (refine Ext.trans ?_ (by assumption))))) ?_; intro v7 w7 hr7 hg7; have hx7 : Ext w5 w7 := row_grown (by with_reducible repeat (first | exact Ext.refl _ | assumption | apply Ext.drewN | apply Ext.drew | apply Ext.alloc | (refine Ext.setCell ?_ (by simp <;> omega) _) | (refine Ext.trans ?_ (by assumption)))) hr6 (Nat.le_refl _) hg7)
                      | (refine step_append_any rfl (.tmp 81) (.tmp 82) rfl w5.heap.size (.slice (some ⟨w5.heap.size, 0, none⟩) 0 0) [] (by simp [Act.eval, Act.put]) (own_lit (n := 0) (sz := 1) (xs := []) (Nat.le_refl _) (alloc_at w5.drew _) rfl (by decide)) bA bc (errB j) (by simp [Act.eval, Act.put, errB_len]) (HBX.out _ (by with_reducible repeat (first | exact Ext.refl _ | assumption | apply Ext.drewN | apply Ext.drew | apply Ext.alloc | (refine Ext.setCell ?_ (by simp <;> omega) _) | (refine Ext.trans ?_ (by assumption))))) (by simp [errB_len]; omega) (ext_size (by with_reducible repeat (first | exact Ext.refl _ | assumption | apply Ext.drewN | apply Ext.drew | apply Ext.alloc | (refine Ext.setCell ?_ (by simp <;> omega) _) | (refine Ext.trans ?_ (by assumption))))) ?_; intro v6 w6 hr6 hg6; have hx6 : Ext w5 w6 := row_grown (by with_reducible repeat (first | exact Ext.refl _ | assumption | apply Ext.drewN | apply Ext.drew | apply Ext.alloc | (refine Ext.setCell ?_ (by simp <;> omega) _) | (refine Ext.trans ?_ (by assumption)))) (own_lit (n := 0) (sz := 1) (xs := []) (Nat.le_refl _) (alloc_at w5.drew _) rfl (by decide)) (Nat.le_refl _) hg6))
                  have HX8 : Hid (Ext W w8) := Lib.hid (HXW.out.trans (HX5.out.trans (hx7.trans hx8)))
                  clear hx6 hx7 hx8 hr6 hg6 hr7 hg7 HA2 HBX HSS s0 s1 s2 s3 s4 s5
                  go_upto_region 24 with (fail)
                  go_quiet (fail)
                  go_wp2_with (fail)
                  go_ret
                  exact ⟨rfl, HX8.out.trans (by with_reducible repeat (first | exact Ext.refl _ | assumption | apply Ext.drewN | apply Ext.drew | apply Ext.alloc | (refine Ext.setCell ?_ (by simp <;> omega) _) | (refine Ext.trans ?_ (by assumption))))⟩
                · by_cases h5 : (i : Int) < (k : Int)
                  · skip
                    have HOE : Hid (openE (errS i) (errB j) k = 24) := Lib.hid (by rw [HEO.out]; rw [if_neg (by omega)]; exact if_pos (by omega))
                    clear HEO
                    have HAS : Hid (Calls Try.prog 19 #[.agg #[.slice oA (errS i).ps.length oc, .int .i64 0, .slice none 0 0, .slice none 0 0, .int .i64 0, .int .i64 0], .slice bA j bc, .int .i64 k] wq fun e w' => e = .returned (.tuple #[.slice none 0 0, .int .i64 24]) ∧ Ext wq w') := Lib.hid (Calls.mono (Assign_any _ _ _ _ _ _ _ (errS i) (errB j) k wq HZ2.out.os.su HB.out (by rw [errB_len]; omega)) fun e w' ⟨v, h1, h2, h3, h4⟩ => by
                      rw [HOE.out] at h1 h3 h4
                      (exact ⟨by rw [h1, h4 (by decide)], h2⟩))
                    obtain ⟨c0, c1, c2, c3, c4, c5⟩ := HZ2.out.c
                    go_upto_region 21 with (go_at_call 19; (with_reducible refine HAS.out.mono ?_); rintro e w5 ⟨rfl, hx5⟩)
                    clear c0 c1 c2 c3 c4 c5
                    have HX5 := Lib.hid hx5
                    have HSS : Hid (∀ wz, Ext w5 wz → wz.cell? ⟨D, 0, none⟩ = some (.slice oA (errS i).ps.length oc) ∧ wz.cell? ⟨D, 1, none⟩ = some (.int .i64 0) ∧ wz.cell? ⟨D, 2, none⟩ = some (.slice none 0 0) ∧ wz.cell? ⟨D, 3, none⟩ = some (.slice none 0 0) ∧ wz.cell? ⟨D, 4, none⟩ = some (.int .i64 0) ∧ wz.cell? ⟨D, 5, none⟩ = some (.int .i64 0)) := Lib.hid fun wz hz => (HZ2.out.ext (HX5.out.trans hz)).c
                    have HBX : Hid (∀ wz, Ext w5 wz → errB j = [] ∨ ∃ b off, bA = some ⟨b, off, none⟩ ∧ ∀ k (h : k < (errB j).length), wz.cell? ⟨b, off + k, none⟩ = some (.int .i64 (errB j)[k])) := Lib.hid fun wz hz => by
                      obtain ⟨A', c', h1, -, -, h4⟩ := HB.out.ext (HX5.out.trans hz)
                      injection h1 with h1
                      subst h1
                      exact h4
                    have HA2 : Hid (∀ v wz, Ext w5 wz → wz.ownsRow w5.heap.size 3 1 v ([] ++ errB j ++ errB j).length (([] ++ errB j ++ errB j).flatMap celI) → Calls Try.prog 19 #[.agg #[.slice oA (errS i).ps.length oc, .int .i64 0, .slice none 0 0, .slice none 0 0, .int .i64 0, .int .i64 0], v, .int .i64 k] wz fun e w' => e = .returned (.tuple #[.slice none 0 0, .int .i64 1]) ∧ Ext wz w') := Lib.hid fun v wz hz hr => by
                      have hird : IRd wz v (errB j ++ errB j) := by
                        have h9 := ird_row hr (fun z hz => by
                          rw [List.nil_append] at hz
                          rcases List.mem_append.1 hz with hz | hz <;> exact errB_ok j (by omega) z hz) (by simp [errB_len]; omega)
                        rwa [List.nil_append] at h9
                      refine Calls.mono (Assign_any _ _ _ _ _ _ _ (errS i) (errB j ++ errB j) k wz (HZ2.out.os.su.ext (HX5.out.trans hz)) hird (by simp [errB_len]; omega)) fun e w' ⟨v, h1, h2, h3, h4⟩ => ?_
                      rw [err_open2] at h1 h3 h4
                      exact ⟨by rw [h1, h4 (by decide)], h2⟩
                    obtain ⟨s0, s1, s2, s3, s4, s5⟩ := HSS.out w5 (Ext.refl _)
                    clear hx5 HAS
                    go_region_held3 (fun w' => w'.cell? ⟨D, 0, none⟩ = some (.slice oA (errS i).ps.length oc) ∧ w'.cell? ⟨D, 1, none⟩ = some (.int .i64 0) ∧ w'.cell? ⟨D, 2, none⟩ = some (.slice none 0 0) ∧ w'.cell? ⟨D, 3, none⟩ = some (.slice none 0 0) ∧ w'.cell? ⟨D, 4, none⟩ = some (.int .i64 0) ∧ w'.cell? ⟨D, 5, none⟩ = some (.int .i64 0))
                      (first | exact HSS.out _ (by with_reducible repeat (first | exact Ext.refl _ | assumption | apply Ext.drewN | apply Ext.drew | apply Ext.alloc | (refine Ext.setCell ?_ (by simp <;> omega) _) | (refine Ext.trans ?_ (by assumption)))) | go_keep)
                      (first
                        | (go_at_call 19; (with_reducible refine (HA2.out v7 w7 hx7 hr7).mono ?_); rintro e w8 ⟨rfl, hx8⟩)
                        | (refine step_append_any rfl (.tmp 83) (.tmp 84) rfl w5.heap.size v6 ([] ++ errB j) (by simp [Act.eval, Act.put]) hr6 bA bc (errB j) (by simp [Act.eval, Act.put, errB_len]) (HBX.out _ (by with_reducible repeat (first | exact Ext.refl _ | assumption | apply Ext.drewN | apply Ext.drew | apply Ext.alloc | (refine Ext.setCell ?_ (by simp <;> omega) _) | (refine Ext.trans ?_ (by assumption))))) (by simp [errB_len]; omega) (ext_size (by with_reducible repeat (first | exact Ext.refl _ | assumption | apply Ext.drewN | apply Ext.drew | apply Ext.alloc | (refine Ext.setCell ?_ (by simp <;> omega) _) | (refine Ext.trans ?_ (by assumption))))) ?_; intro v7 w7 hr7 hg7; have hx7 : Ext w5 w7 := row_grown (by with_reducible repeat (first | exact Ext.refl _ | assumption | apply Ext.drewN | apply Ext.drew | apply Ext.alloc | (refine Ext.setCell ?_ (by simp <;> omega) _) | (refine Ext.trans ?_ (by assumption)))) hr6 (Nat.le_refl _) hg7)
                        | (refine step_append_any rfl (.tmp 81) (.tmp 82) rfl w5.heap.size (.slice (some ⟨w5.heap.size, 0, none⟩) 0 0) [] (by simp [Act.eval, Act.put]) (own_lit (n := 0) (sz := 1) (xs := []) (Nat.le_refl _) (alloc_at w5.drew _) rfl (by decide)) bA bc (errB j) (by simp [Act.eval, Act.put, errB_len]) (HBX.out _ (by with_reducible repeat (first | exact Ext.refl _ | assumption | apply Ext.drewN | apply Ext.drew | apply Ext.alloc | (refine Ext.setCell ?_ (by simp <;> omega) _) | (refine Ext.trans ?_ (by assumption))))) (by simp [errB_len]; omega) (ext_size (by with_reducible repeat (first | exact Ext.refl _ | assumption | apply Ext.drewN | apply Ext.drew | apply Ext.alloc | (refine Ext.setCell ?_ (by simp <;> omega) _) | (refine Ext.trans ?_ (by assumption))))) ?_; intro v6 w6 hr6 hg6; have hx6 : Ext w5 w6 := row_grown (by with_reducible repeat (first | exact Ext.refl _ | assumption | apply Ext.drewN | apply Ext.drew | apply Ext.alloc | (refine Ext.setCell ?_ (by simp <;> omega) _) | (refine Ext.trans ?_ (by assumption)))) (own_lit (n := 0) (sz := 1) (xs := []) (Nat.le_refl _) (alloc_at w5.drew _) rfl (by decide)) (Nat.le_refl _) hg6))
                    have HX8 : Hid (Ext W w8) := Lib.hid (HXW.out.trans (HX5.out.trans (hx7.trans hx8)))
                    clear hx6 hx7 hx8 hr6 hg6 hr7 hg7 HA2 HBX HSS s0 s1 s2 s3 s4 s5
                    go_upto_region 24 with (fail)
                    go_quiet (fail)
                    go_wp2_with (fail)
                    go_ret
                    exact ⟨rfl, HX8.out.trans (by with_reducible repeat (first | exact Ext.refl _ | assumption | apply Ext.drewN | apply Ext.drew | apply Ext.alloc | (refine Ext.setCell ?_ (by simp <;> omega) _) | (refine Ext.trans ?_ (by assumption))))⟩
                  · obtain ⟨q, hq⟩ : ∃ q, q = j * k := ⟨_, rfl⟩
                    have hqb : q ≤ 40 * 13 := by rw [hq]; exact Nat.mul_le_mul (by omega) (by omega)
                    obtain ⟨cl, hcl⟩ : ∃ cl, cl = (q + i - 1) / i := ⟨_, rfl⟩
                    have hcb : cl ≤ 600 := by rw [hcl]; exact Nat.le_trans (Nat.div_le_self _ _) (by omega)
                    have m4 : IntKind.i64.wrap ((j : Int) * (k : Int)) = (q : Int) := by rw [IntKind.wrap_i64, ← Int.natCast_mul, ← hq]; omega
                    have m5 : IntKind.i64.wrap ((q : Int) + (i : Int)) = (q : Int) + i := by rw [IntKind.wrap_i64]; omega
                    have m6 : IntKind.i64.wrap ((q : Int) + (i : Int) - 1) = (q : Int) + i - 1 := by rw [IntKind.wrap_i64]; omega
                    have m7 : ((q : Int) + (i : Int) - 1).tdiv (i : Int) = (cl : Int) := by
                      rw [hcl, show (q : Int) + (i : Int) - 1 = ((q + i - 1 : Nat) : Int) by omega]
                      exact Int.ofNat_tdiv _ _
                    have m8 : IntKind.i64.wrap (cl : Int) = (cl : Int) := by rw [IntKind.wrap_i64]; omega
                    have HQ := Lib.hid hq; have HCL := Lib.hid hcl
                    clear hq hcl
                    have HOE : Hid (openE (errS i) (errB j) k = 0) := Lib.hid (by rw [HEO.out]; rw [if_neg (by omega)]; exact if_neg (by omega))
                    clear HEO
                    have HAS : Hid (Calls Try.prog 19 #[.agg #[.slice oA (errS i).ps.length oc, .int .i64 0, .slice none 0 0, .slice none 0 0, .int .i64 0, .int .i64 0], .slice bA j bc, .int .i64 k] wq fun e w' => ∃ A c l, e = .returned (.tuple #[.slice A l.length c, .int .i64 0]) ∧ Ext wq w' ∧ SR reC 2 w' (.slice A l.length c) l ∧ l.length = q ∧ mostF (l.map (·.1)) = cl) := Lib.hid (Calls.mono (Assign_any _ _ _ _ _ _ _ (errS i) (errB j) k wq HZ2.out.os.su HB.out (by rw [errB_len]; omega)) fun e w' ⟨v, h1, h2, h3, h4⟩ => by
                      rw [HOE.out] at h1 h3 h4
                      (obtain ⟨L, hL, hr⟩ := h3 rfl; have hsr := SR.of_row (cs := reC) (fun _ => rfl) hr (by rw [asg_len hL, errB_len]; have := HQ.out; rw [Nat.mul_comm, show ((k : Int)).toNat = k from rfl]; omega); obtain ⟨A, c, hf⟩ := hsr.form; subst hf; exact ⟨A, c, _, h1, h2, hsr, by rw [asg_len hL, errB_len, HQ.out, Nat.mul_comm]; rfl, by rw [most_asg hL, err_least (by omega) HOE.out hL, HCL.out, HQ.out]⟩))
                    obtain ⟨c0, c1, c2, c3, c4, c5⟩ := HZ2.out.c
                    go_upto_region 21 with (go_at_call 19; (with_reducible refine HAS.out.mono ?_); rintro e w5 ⟨lA, lc, l, rfl, hx5, hsr, hlq, hmq⟩)
                    clear c0 c1 c2 c3 c4 c5
                    have HX5 := Lib.hid hx5
                    have HSS : Hid (∀ wz, Ext w5 wz → wz.cell? ⟨D, 0, none⟩ = some (.slice oA (errS i).ps.length oc) ∧ wz.cell? ⟨D, 1, none⟩ = some (.int .i64 0) ∧ wz.cell? ⟨D, 2, none⟩ = some (.slice none 0 0) ∧ wz.cell? ⟨D, 3, none⟩ = some (.slice none 0 0) ∧ wz.cell? ⟨D, 4, none⟩ = some (.int .i64 0) ∧ wz.cell? ⟨D, 5, none⟩ = some (.int .i64 0)) := Lib.hid fun wz hz => (HZ2.out.ext (HX5.out.trans hz)).c
                    have HBX : Hid (∀ wz, Ext w5 wz → errB j = [] ∨ ∃ b off, bA = some ⟨b, off, none⟩ ∧ ∀ k (h : k < (errB j).length), wz.cell? ⟨b, off + k, none⟩ = some (.int .i64 (errB j)[k])) := Lib.hid fun wz hz => by
                      obtain ⟨A', c', h1, -, -, h4⟩ := HB.out.ext (HX5.out.trans hz)
                      injection h1 with h1
                      subst h1
                      exact h4
                    have HA2 : Hid (∀ v wz, Ext w5 wz → wz.ownsRow w5.heap.size 3 1 v ([] ++ errB j ++ errB j).length (([] ++ errB j ++ errB j).flatMap celI) → Calls Try.prog 19 #[.agg #[.slice oA (errS i).ps.length oc, .int .i64 0, .slice none 0 0, .slice none 0 0, .int .i64 0, .int .i64 0], v, .int .i64 k] wz fun e w' => e = .returned (.tuple #[.slice none 0 0, .int .i64 1]) ∧ Ext wz w') := Lib.hid fun v wz hz hr => by
                      have hird : IRd wz v (errB j ++ errB j) := by
                        have h9 := ird_row hr (fun z hz => by
                          rw [List.nil_append] at hz
                          rcases List.mem_append.1 hz with hz | hz <;> exact errB_ok j (by omega) z hz) (by simp [errB_len]; omega)
                        rwa [List.nil_append] at h9
                      refine Calls.mono (Assign_any _ _ _ _ _ _ _ (errS i) (errB j ++ errB j) k wz (HZ2.out.os.su.ext (HX5.out.trans hz)) hird (by simp [errB_len]; omega)) fun e w' ⟨v, h1, h2, h3, h4⟩ => ?_
                      rw [err_open2] at h1 h3 h4
                      exact ⟨by rw [h1, h4 (by decide)], h2⟩
                    obtain ⟨s0, s1, s2, s3, s4, s5⟩ := HSS.out w5 (Ext.refl _)
                    clear hx5 HAS
                    go_region_held3 (fun w' => w'.cell? ⟨D, 0, none⟩ = some (.slice oA (errS i).ps.length oc) ∧ w'.cell? ⟨D, 1, none⟩ = some (.int .i64 0) ∧ w'.cell? ⟨D, 2, none⟩ = some (.slice none 0 0) ∧ w'.cell? ⟨D, 3, none⟩ = some (.slice none 0 0) ∧ w'.cell? ⟨D, 4, none⟩ = some (.int .i64 0) ∧ w'.cell? ⟨D, 5, none⟩ = some (.int .i64 0))
                      (first | exact HSS.out _ (by with_reducible repeat (first | exact Ext.refl _ | assumption | apply Ext.drewN | apply Ext.drew | apply Ext.alloc | (refine Ext.setCell ?_ (by simp <;> omega) _) | (refine Ext.trans ?_ (by assumption)))) | go_keep)
                      (first
                        | (go_at_call 19; (with_reducible refine (HA2.out v7 w7 hx7 hr7).mono ?_); rintro e w8 ⟨rfl, hx8⟩)
                        | (refine step_append_any rfl (.tmp 83) (.tmp 84) rfl w5.heap.size v6 ([] ++ errB j) (by simp [Act.eval, Act.put]) hr6 bA bc (errB j) (by simp [Act.eval, Act.put, errB_len]) (HBX.out _ (by with_reducible repeat (first | exact Ext.refl _ | assumption | apply Ext.drewN | apply Ext.drew | apply Ext.alloc | (refine Ext.setCell ?_ (by simp <;> omega) _) | (refine Ext.trans ?_ (by assumption))))) (by simp [errB_len]; omega) (ext_size (by with_reducible repeat (first | exact Ext.refl _ | assumption | apply Ext.drewN | apply Ext.drew | apply Ext.alloc | (refine Ext.setCell ?_ (by simp <;> omega) _) | (refine Ext.trans ?_ (by assumption))))) ?_; intro v7 w7 hr7 hg7; have hx7 : Ext w5 w7 := row_grown (by with_reducible repeat (first | exact Ext.refl _ | assumption | apply Ext.drewN | apply Ext.drew | apply Ext.alloc | (refine Ext.setCell ?_ (by simp <;> omega) _) | (refine Ext.trans ?_ (by assumption)))) hr6 (Nat.le_refl _) hg7)
                        | (refine step_append_any rfl (.tmp 81) (.tmp 82) rfl w5.heap.size (.slice (some ⟨w5.heap.size, 0, none⟩) 0 0) [] (by simp [Act.eval, Act.put]) (own_lit (n := 0) (sz := 1) (xs := []) (Nat.le_refl _) (alloc_at w5.drew _) rfl (by decide)) bA bc (errB j) (by simp [Act.eval, Act.put, errB_len]) (HBX.out _ (by with_reducible repeat (first | exact Ext.refl _ | assumption | apply Ext.drewN | apply Ext.drew | apply Ext.alloc | (refine Ext.setCell ?_ (by simp <;> omega) _) | (refine Ext.trans ?_ (by assumption))))) (by simp [errB_len]; omega) (ext_size (by with_reducible repeat (first | exact Ext.refl _ | assumption | apply Ext.drewN | apply Ext.drew | apply Ext.alloc | (refine Ext.setCell ?_ (by simp <;> omega) _) | (refine Ext.trans ?_ (by assumption))))) ?_; intro v6 w6 hr6 hg6; have hx6 : Ext w5 w6 := row_grown (by with_reducible repeat (first | exact Ext.refl _ | assumption | apply Ext.drewN | apply Ext.drew | apply Ext.alloc | (refine Ext.setCell ?_ (by simp <;> omega) _) | (refine Ext.trans ?_ (by assumption)))) (own_lit (n := 0) (sz := 1) (xs := []) (Nat.le_refl _) (alloc_at w5.drew _) rfl (by decide)) (Nat.le_refl _) hg6))
                    have HLD : Hid (∀ wz, Ext w8 wz → Calls Try.prog 21 #[.slice lA q lc] wz fun e w' => e = .returned (.int .i64 (cl : Nat)) ∧ Ext wz w') := Lib.hid fun wz hz => by
                      have h9 := loads_any _ l wz (hsr.ext ((hx7.trans hx8).trans hz))
                      rw [hmq, hlq] at h9
                      exact h9
                    have HX8 : Hid (Ext W w8) := Lib.hid (HXW.out.trans (HX5.out.trans (hx7.trans hx8)))
                    clear hx6 hx7 hx8 hr6 hg6 hr7 hg7 HA2 HBX HSS s0 s1 s2 s3 s4 s5 hsr hlq hmq
                    have hi0 : ¬ (i : Int) = 0 := by omega
                    have hi1 : ¬ i = 0 := by omega
                    go_upto_region 24 with (fail)
                    go_region_held3 (fun w' => True) (trivial) (first | (go_at_call 21; (with_reducible refine (HLD.out _ (by with_reducible repeat (first | exact Ext.refl _ | assumption | apply Ext.drewN | apply Ext.drew | apply Ext.alloc | (refine Ext.setCell ?_ (by simp <;> omega) _) | (refine Ext.trans ?_ (by assumption))))).mono ?_); rintro e w9 ⟨rfl, hx9⟩))
                    go_wp2_with (fail)
                    go_ret
                    exact ⟨rfl, HX8.out.trans (by with_reducible repeat (first | exact Ext.refl _ | assumption | apply Ext.drewN | apply Ext.drew | apply Ext.alloc | (refine Ext.setCell ?_ (by simp <;> omega) _) | (refine Ext.trans ?_ (by assumption))))⟩
end Go.Proofs.Ytlekdhhgjhakgaa
