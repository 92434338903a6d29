/-
  The reference's right. Conditions: a list lies in memory.
-/
import Derived.Test.YtlekdhhgjhakgaaRiA
import Derived.Test.YtlekdhhgjhakgaaJnE
namespace Go.Proofs.Ytlekdhhgjhakgaa
set_option linter.unusedVariables false
set_option linter.unusedSimpArgs false
open Go.RowKit
theorem rightF_dec (l : List Int) (k : Int) : rightF l k = decide ((1 ≤ l.length ∧ l.length ≤ 40) ∧ (1 ≤ k ∧ k ≤ 13) ∧ l.Nodup) := by
  unfold rightF
  rw [Bool.eq_iff_iff]
  simp only [Bool.and_eq_true, decide_eq_true_iff]
  constructor
  · rintro ⟨⟨⟨⟨a, b⟩, c⟩, d⟩, e⟩
    exact ⟨⟨by omega, b⟩, ⟨by omega, e⟩, c⟩
  · rintro ⟨⟨a, b⟩, ⟨d, e⟩, c⟩
    exact ⟨⟨⟨⟨by omega, b⟩, c⟩, by omega⟩, e⟩
theorem ird_take {w : World} {A : Option Addr} {c : Nat} {l : List Int} (h : IRd w (.slice A l.length c) l) (j : Nat) (hj : j ≤ l.length) (c' : Nat) : IRd w (.slice A j c') (l.take j) := by
  obtain ⟨A', c2, h1, h2, h3, h4⟩ := h
  injection h1 with e1 e2 e3
  subst e1
  refine ⟨A, c', by rw [List.length_take, Nat.min_eq_left hj], by rw [List.length_take]; omega, fun z hz => h3 z (List.mem_of_mem_take hz), ?_⟩
  rcases h4 with rfl | ⟨b, off, ha, hc⟩
  · exact .inl (by simp)
  · refine .inr ⟨b, off, ha, fun k hk => ?_⟩
    rw [List.length_take] at hk
    rw [hc k (by omega), List.getElem_take]
set_option maxRecDepth 100000 in
set_option maxHeartbeats 8000000 in
theorem refRight_any (A : Option Addr) (c : Nat) (l : List Int) (k : Int) (w : World) (hv : IRd w (.slice A l.length c) l) (hcap : l.length ≤ c) :
    Calls Try.prog 55 #[.slice A l.length c, .int .i64 k] w fun e w' => e = .returned (.bool (rightF l k)) ∧ Ext w w' := by
  have HIR := Lib.hid hv
  obtain ⟨A', c', hv', hlen, hrng, hcell⟩ := hv
  injection hv' with e1 _ e3
  subst e1 e3
  have HC := Lib.hid hcell
  clear hcell hrng
  go_enter Try.func55, Try.ntmps55
  go_upto_region 1 with (fail)
  by_cases h1 : (l.length : Int) < 1
  · skip
    have HF : Hid (rightF l k = false) := Lib.hid ((rightF_dec l k).trans <| decide_eq_false (by omega))
    go_wp2_with (fail)
    go_ret
    exact ⟨by rw [HF.out]; rfl, (by with_reducible repeat (first | exact Ext.refl _ | assumption | apply Ext.drewN | apply Ext.drew | apply Ext.alloc | (refine Ext.setCell ?_ (by simp <;> omega) _) | (refine Ext.trans ?_ (by assumption))))⟩
  · by_cases h2 : (40 : Int) < (l.length : Int)
    · skip
      have HF : Hid (rightF l k = false) := Lib.hid ((rightF_dec l k).trans <| decide_eq_false (by omega))
      go_wp2_with (fail)
      go_ret
      exact ⟨by rw [HF.out]; rfl, (by with_reducible repeat (first | exact Ext.refl _ | assumption | apply Ext.drewN | apply Ext.drew | apply Ext.alloc | (refine Ext.setCell ?_ (by simp <;> omega) _) | (refine Ext.trans ?_ (by assumption))))⟩
    · by_cases h3 : k < 1
      · skip
        have HF : Hid (rightF l k = false) := Lib.hid ((rightF_dec l k).trans <| decide_eq_false (by omega))
        go_wp2_with (fail)
        go_ret
        exact ⟨by rw [HF.out]; rfl, (by with_reducible repeat (first | exact Ext.refl _ | assumption | apply Ext.drewN | apply Ext.drew | apply Ext.alloc | (refine Ext.setCell ?_ (by simp <;> omega) _) | (refine Ext.trans ?_ (by assumption))))⟩
      · by_cases h4 : 13 < k
        · skip
          have HF : Hid (rightF l k = false) := Lib.hid ((rightF_dec l k).trans <| decide_eq_false (by omega))
          go_wp2_with (fail)
          go_ret
          exact ⟨by rw [HF.out]; rfl, (by with_reducible repeat (first | exact Ext.refl _ | assumption | apply Ext.drewN | apply Ext.drew | apply Ext.alloc | (refine Ext.setCell ?_ (by simp <;> omega) _) | (refine Ext.trans ?_ (by assumption))))⟩
        · go_upto_region 4 with (fail)
          go_loopw [5] (fun kv wr => ∃ j : Nat, kv = .int .i64 j ∧ j ≤ l.length ∧ Hid ((l.take j).Nodup) ∧ Hid (Ext w wr)) (fun kv _ => l.length - (iof kv).toNat)
          case atStart => exact ⟨0, rfl, by omega, Lib.hid (by simp), Lib.hid (by with_reducible repeat (first | exact Ext.refl _ | assumption | apply Ext.drewN | apply Ext.drew | apply Ext.alloc | (refine Ext.setCell ?_ (by simp <;> omega) _) | (refine Ext.trans ?_ (by assumption))))⟩
          case round =>
            obtain ⟨j, rfl, hj, HN, HX⟩ := hrel
            by_cases hjl : j < l.length
            · obtain ⟨b, off, rfl, hc⟩ := HC.out.resolve_left (by intro e; rw [e] at hjl; simp at hjl)
              have hcj := hc j hjl
              have hlb := World.block_lt_of_cell? w _ hcj
              have HSS : Hid (∀ wz, Ext wr wz → wz.cell? ⟨b, off + j, none⟩ = some (.int .i64 l[j])) := Lib.hid fun wz hz => ((HX.out.trans hz).cells.1 _ _ hlb).trans hcj
              have HT : Hid (l.take (j + 1) = l.take j ++ [l[j]]) := Lib.hid (List.take_succ_eq_append_getElem hjl)
              have HCN : Hid (∀ wz c', Ext wr wz → Calls Try.prog 31 #[.slice (some ⟨b, off, none⟩) j c', .int .i64 l[j]] wz fun e w' => e = .returned (.bool (decide (l[j] ∈ l.take j))) ∧ Ext wz w') := Lib.hid fun wz c' hz => contains_any _ (l.take j) l[j] wz ((ird_take HIR.out j hj c').ext (HX.out.trans hz)) (by rw [List.length_take]; omega)
              have s0 := HSS.out wr (Ext.refl _)
              have hjc : j ≤ c := by omega
              have hjc2 : (j : Int) ≤ (c : Int) := by omega
              have hj0 : (0 : Int) ≤ (j : Int) := by omega
              have hjl2 : (j : Int) ≤ (l.length : Int) := by omega
              have hjl3 : (j : Int) < (l.length : Int) := by omega
              clear hc hcj hlb
              generalize l[j] = y at *
              go_upto_region 6 with (fail)
              refine Rp.wp_regionTE [] [(0, .y), (1, .y), (2, .y), (3, .y), (4, .y), (5, .y), (6, .y)] [7] (fun _ => (.cells #[] 3, fun p => .slice (some ⟨p, 0, none⟩) 1 1)) (fun c a d v w h => by have h' : _ ∧ _ := h; exact ⟨(Rr.put_defers a d v).symm.trans h'.1, h'.2⟩) (by kernel_rfl) (by kernel_rfl) ?_
              (refine Rr.wr_y (by simp only [List.getElem?_toArray, List.getElem?_cons_succ, List.getElem?_cons_zero]; rfl) (by rfl) ?_
               apply Exists.intro
               refine ⟨fun wz hw _ => ?_, ?_⟩
               · have hcz := hw.cells.1
                 go_simp
                 (with_reducible exact Rg.up_value)
               simp only [Act.put, List.setIfInBounds_toArray, List.set_cons_zero, List.set_cons_succ])
              (refine Rr.wr_y (by simp only [List.getElem?_toArray, List.getElem?_cons_succ, List.getElem?_cons_zero]; rfl) (by rfl) ?_
               apply Exists.intro
               refine ⟨fun wz hw _ => ?_, ?_⟩
               · have hcz := hw.cells.1
                 go_simp
                 (with_reducible exact Rg.up_value)
               simp only [Act.put, List.setIfInBounds_toArray, List.set_cons_zero, List.set_cons_succ])
              (refine Rr.wr_y (by simp only [List.getElem?_toArray, List.getElem?_cons_succ, List.getElem?_cons_zero]; rfl) (by rfl) ?_
               apply Exists.intro
               refine ⟨fun wz hw hh => ?_, ?_⟩
               · go_simp
                 (with_reducible exact Rg.up_value)
               simp only [Act.put, List.setIfInBounds_toArray, List.set_cons_zero, List.set_cons_succ])
              (refine Rr.wr_y (by simp only [List.getElem?_toArray, List.getElem?_cons_succ, List.getElem?_cons_zero]; rfl) (by rfl) ?_
               apply Exists.intro
               refine ⟨fun wz hw _ => ?_, ?_⟩
               · have hcz := hw.cells.1
                 go_simp
                 (with_reducible exact Rg.up_value)
               simp only [Act.put, List.setIfInBounds_toArray, List.set_cons_zero, List.set_cons_succ])
              (refine Rr.wr_y (by simp only [List.getElem?_toArray, List.getElem?_cons_succ, List.getElem?_cons_zero]; rfl) (by rfl) ?_
               apply Exists.intro
               refine ⟨fun wz hw _ => ?_, ?_⟩
               · have hcz := hw.cells.1
                 go_simp
                 (with_reducible exact Rg.up_value)
               simp only [Act.put, List.setIfInBounds_toArray, List.set_cons_zero, List.set_cons_succ])
              (refine Rr.wr_y (by simp only [List.getElem?_toArray, List.getElem?_cons_succ, List.getElem?_cons_zero]; rfl) (by rfl) ?_
               apply Exists.intro
               refine ⟨fun wz hw _ => ?_, ?_⟩
               · have hcz := hw.cells.1
                 go_simp
                 (with_reducible exact Rg.up_value)
               simp only [Act.put, List.setIfInBounds_toArray, List.set_cons_zero, List.set_cons_succ])
              (refine Rr.wr_y (by simp only [List.getElem?_toArray, List.getElem?_cons_succ, List.getElem?_cons_zero]; rfl) (by rfl) ?_
               apply Exists.intro
               refine ⟨fun wz hw hh => ?_, ?_⟩
               · have hc0 := HSS.out wz hw
                 go_simp
                 (with_reducible exact Rg.up_value)
               simp only [Act.put, List.setIfInBounds_toArray, List.set_cons_zero, List.set_cons_succ])
              refine Rr.wr_nil ?_
              intro wy hy hh
              clear hh
              simp only [List.filterMap_cons, List.filterMap_nil, List.getElem?_cons_succ, List.getElem?_cons_zero]
              refine wpList_call rfl (by go_simp) ((HCN.out _ c hy).mono ?_)
              rintro e wa ⟨rfl, hxa0⟩
              refine ⟨_, rfl, ?_⟩
              simp only [Act.put, List.setIfInBounds_toArray, List.set_cons_zero, List.set_cons_succ]
              have hxa : Ext wr wa := hy.trans hxa0
              clear hxa0 hy
              have HXA : Hid (Ext w wa) := Lib.hid (HX.out.trans (by with_reducible repeat (first | exact Ext.refl _ | assumption | apply Ext.drewN | apply Ext.drew | apply Ext.alloc | (refine Ext.setCell ?_ (by simp <;> omega) _) | (refine Ext.trans ?_ (by assumption)))))
              clear hxa s0 HSS
              by_cases hm : y ∈ l.take j
              · have HF : Hid (rightF l k = false) := Lib.hid ((rightF_dec l k).trans <| decide_eq_false fun h => by
                  have h9 : (l.take (j + 1)).Nodup := h.2.2.sublist (List.take_sublist _ _)
                  rw [HT.out, List.nodup_append] at h9
                  exact h9.2.2 y hm y (by simp) rfl)
                have hm2 := decide_eq_true hm
                go_wp2_with (fail)
                go_ret
                exact ⟨by rw [HF.out]; rfl, HXA.out⟩
              · have HN2 : Hid ((l.take (j + 1)).Nodup) := Lib.hid (by
                  rw [HT.out, List.nodup_append]
                  exact ⟨HN.out, by simp, fun a ha b' hb => by
                    rw [List.mem_singleton] at hb
                    subst hb
                    exact fun e => hm (e ▸ ha)⟩)
                have hm2 := decide_eq_false hm
                go_wp2_with (fail)
                exact ⟨⟨j + 1, by simp, by omega, HN2, HXA⟩, by simp [iof]; omega⟩
            · obtain rfl : j = l.length := by omega
              have HN2 := HN.out
              rw [List.take_length] at HN2
              have HF : Hid (rightF l k = true) := Lib.hid ((rightF_dec l k).trans <| decide_eq_true ⟨⟨by omega, by omega⟩, ⟨by omega, by omega⟩, HN2⟩)
              go_wp2_with (fail)
              go_ret
              exact ⟨by rw [HF.out]; rfl, HX.out⟩
end Go.Proofs.Ytlekdhhgjhakgaa
