/-
  EvalLimits walked. Conditions: the ranges of the arguments.
-/
import Derived.Test.YtgkdeknfmmgbdaaLimP
namespace Go.Proofs.Ytgkdeknfmmgbdaa
open Go.RowKit

theorem set5 {w : World} {p : Nat} {a0 a1 a2 a3 a4 c0 c1 c2 c3 c4 : Value} {t : TypeId} (h : w.heap[p]? = some (.cells #[a0, a1, a2, a3, a4] t)) :
    (((((w.setCell ⟨p, 0, none⟩ c0).setCell ⟨p, 1, none⟩ c1).setCell ⟨p, 2, none⟩ c2).setCell ⟨p, 3, none⟩ c3).setCell ⟨p, 4, none⟩ c4).heap[p]? = some (.cells #[c0, c1, c2, c3, c4] t) := by
  simp [World.setCell, Array.getElem?_modify, h]
theorem set5_far {w : World} {p : Nat} {c0 c1 c2 c3 c4 : Value} (b o : Nat) (hb : ¬ b = p) :
    (((((w.setCell ⟨p, 0, none⟩ c0).setCell ⟨p, 1, none⟩ c1).setCell ⟨p, 2, none⟩ c2).setCell ⟨p, 3, none⟩ c3).setCell ⟨p, 4, none⟩ c4).cell? ⟨b, o, none⟩ = w.cell? ⟨b, o, none⟩ := by
  have h3 : ¬ p = b := fun e => hb e.symm
  go_simp
theorem cell5 {w : World} {p : Nat} {c0 c1 c2 c3 c4 : Value} {t : TypeId} (h : w.heap[p]? = some (.cells #[c0, c1, c2, c3, c4] t)) :
    w.cell? ⟨p, 0, none⟩ = some c0 ∧ w.cell? ⟨p, 1, none⟩ = some c1 ∧ w.cell? ⟨p, 2, none⟩ = some c2 ∧ w.cell? ⟨p, 3, none⟩ = some c3 ∧ w.cell? ⟨p, 4, none⟩ = some c4 ∧ w.cell? ⟨p, 5, none⟩ = none ∧
    w.frozen? ⟨p, 0, none⟩ = false ∧ w.frozen? ⟨p, 1, none⟩ = false ∧ w.frozen? ⟨p, 2, none⟩ = false ∧ w.frozen? ⟨p, 3, none⟩ = false ∧ w.frozen? ⟨p, 4, none⟩ = false ∧ p < w.heap.size := by
  obtain ⟨hc, hf, hl⟩ := Rg.cells_of h
  exact ⟨hc 0, hc 1, hc 2, hc 3, hc 4, hc 5, hf 0, hf 1, hf 2, hf 3, hf 4, hl⟩

set_option maxRecDepth 100000 in
set_option maxHeartbeats 4000000 in
theorem limits_walk (a b n : Int) (ha : 0 ≤ a ∧ a ≤ 255) (hb : 0 ≤ b ∧ b ≤ 255) (hn : -128 ≤ n ∧ n ≤ 127) (w : World) : Calls Try.prog 7 #[.int .u8 a, .int .u8 b, .int .i8 n] w fun e w' => e = .returned (.bool true) ∧ Ext w w' := by
  obtain ⟨a0, a1⟩ := ha
  obtain ⟨b0, b1⟩ := hb
  obtain ⟨n0, n1⟩ := hn
  go_enter Try.func7, Try.ntmps7
  go_wp2_with (first
    | (go_at_call 13; (with_reducible refine (sanity_any _).mono ?_); rintro e w1 ⟨rfl, hb1⟩)
    | (go_at_call 30; (with_reducible refine (name_any _ _).mono ?_); rintro e w2 ⟨rfl, hb2⟩))
  obtain ⟨K, hK⟩ := Int.eq_ofNat_of_zero_le (show 0 ≤ a % 16 by omega)
  have hK15 : K ≤ 15 := by omega
  rw [hK]
  have HK := Lib.hid hK
  clear hK
  have hP : (w2.alloc (.cells #[.string nameB, .int .i64 0, .int .i64 0, .string priceB, .slice none 0 0] 29)).heap[w2.heap.size]? = some (.cells #[.string nameB, .int .i64 0, .int .i64 0, .string priceB, .slice none 0 0] 29) := block_new rfl
  have hx0 : Ext w (w2.alloc (.cells #[.string nameB, .int .i64 0, .int .i64 0, .string priceB, .slice none 0 0] 29)) := (by with_reducible repeat (first | exact Ext.refl _ | assumption | apply Ext.drewN | apply Ext.drew | apply Ext.alloc | (refine Ext.setCell ?_ (by simp <;> omega) _) | (refine Ext.trans ?_ (by assumption))))
  have hPw : w.heap.size ≤ w2.heap.size := by have : Ext w w2 := (by with_reducible repeat (first | exact Ext.refl _ | assumption | apply Ext.drewN | apply Ext.drew | apply Ext.alloc | (refine Ext.setCell ?_ (by simp <;> omega) _) | (refine Ext.trans ?_ (by assumption)))); exact this.size
  generalize w2.alloc (.cells #[.string nameB, .int .i64 0, .int .i64 0, .string priceB, .slice none 0 0] 29) = W at *
  generalize w2.heap.size = P at *
  clear hb1 hb2 w1 w2
  go_loopw [25] (fun i wr => ∃ (k : Nat) (op : ByteArray) (m1 m2 : Int) (nm : ByteArray) (base : Option Addr) (len cap : Nat), k ≤ K ∧ i = .int .u8 k ∧ wr.heap[P]? = some (.cells #[.string op, .int .i64 m1, .int .i64 m2, .string nm, .slice base len cap] 29) ∧
    Rd All wr (chainE k) (.agg #[.string op, .int .i64 m1, .int .i64 m2, .string nm, .slice base len cap]) ∧ Ext w wr) (fun i _ => K - (intOf i).toNat)
  case atStart => exact ⟨0, _, _, _, _, _, _, _, Nat.zero_le _, by go_num, hP, rdN priceB _, hx0⟩
  case round =>
    obtain ⟨k, op, m1, m2, nm, base, len, cap, hk, rfl, hp, hr, hx⟩ := hrel
    obtain ⟨e0, e1, e2, e3, e4, e5, f0, f1, f2, f3, f4, lp⟩ := cell5 hp
    have Hr := Lib.hid hr
    have Hp := Lib.hid hp
    clear hr hp
    rcases Nat.lt_or_ge k K with hlt | hge
    · have hk2 : (k : Int) < 15 := by omega
      go_wp2_with (fail)
      refine Rr.wp_region [(0, .y), (1, .y), (2, .z)] (fun _ => (.cells #[] 29, Rg.ptr)) (by kernel_rfl) (by kernel_rfl) ?_
      (refine Rr.wr_y (by simp only [List.getElem?_toArray, List.getElem?_cons_succ, List.getElem?_cons_zero]; rfl) (by rfl) ?_
       apply Exists.intro
       refine ⟨fun wz hw _ => ?_, ?_⟩
       · have hcz := hw.cells.1
         exact up_load29 (by rfl) ((hcz _ _ lp).trans e0) ((hcz _ _ lp).trans e1) ((hcz _ _ lp).trans e2) ((hcz _ _ lp).trans e3) ((hcz _ _ lp).trans e4)
       simp only [Act.put, List.setIfInBounds_toArray, List.set_cons_zero, List.set_cons_succ])
      (refine Rr.wr_y (by simp only [List.getElem?_toArray, List.getElem?_cons_succ, List.getElem?_cons_zero]; rfl) (by rfl) ?_
       apply Exists.intro
       refine ⟨fun wz hw _ => ?_, ?_⟩
       · have hcz := hw.cells.1
         go_simp
         apply Rg.up_enter
         (with_reducible refine (num_any _ _).mono ?_)
         rintro e w3 ⟨rfl, hb3⟩
         exact ⟨rfl, hb3⟩
       simp only [Act.put, List.setIfInBounds_toArray, List.set_cons_zero, List.set_cons_succ])
      refine Rr.wr_z (fun v w' => Rd All w' (chainE (k + 1)) v) (by simp only [List.getElem?_toArray, List.getElem?_cons_succ, List.getElem?_cons_zero]; rfl) (by rfl) (fun v w1 w2 h e => by first | exact Rd.ext e h) (fun wz hw hh => ?_) (fun u => ?_)
      · have hcz := hw.cells.1
        go_simp
        apply Rr.upR_enter
        (with_reducible refine (op_any All addB (chainE k) (numE (1, 1)) _ _ _ (Hr.out.ext (by with_reducible repeat (first | exact Ext.refl _ | assumption | apply Ext.drewN | apply Ext.drew | apply Ext.alloc | (refine Ext.setCell ?_ (by simp <;> omega) _) | (refine Ext.trans ?_ (by assumption))))) (rd60 1 _) (fun _ _ => trivial)).mono ?_)
        rintro e w3 ⟨v3, rfl, hx3, hr3⟩
        exact ⟨v3, rfl, hx3, hr3⟩
      simp only [Act.put, List.setIfInBounds_toArray, List.set_cons_zero, List.set_cons_succ]
      refine Rr.wr_nil ?_
      intro wy hy hh
      have hr1 := holds_hd hh
      obtain ⟨op', n1', n2', nm', base', len', cap', hform⟩ := Rd.form hr1
      subst hform
      have HR := Lib.hid hr1
      simp only [List.length_cons, List.length_nil, List.drop_succ_cons, List.drop_zero, Nat.reduceAdd]
      clear hh hr1
      obtain ⟨hcy, hfy⟩ := hy.cells
      go_wp2
      go_roundw
      case rel =>
        have hp1 := (hy.block P lp).trans Hp.out
        exact ⟨k + 1, op', n1', n2', nm', base', len', cap', by omega, by go_num, set5 hp1, Rd.past (chain_facts n ⟨n0, n1⟩ (k + 1) (by omega)).2.2.2.2 HR.out ((hcy _ _ lp).trans e5) (fun b o hb _ => set5_far b o hb), (by with_reducible repeat (first | exact Ext.refl _ | assumption | apply Ext.drewN | apply Ext.drew | apply Ext.alloc | (refine Ext.setCell ?_ (by simp <;> omega) _) | (refine Ext.trans ?_ (by assumption))))⟩
      case measure => simp [intOf]; omega
    · obtain rfl : k = K := by omega
      have hE : ∃ x1 x2 f : Int, evalI [(priceB, n)] (chainE k) = ((x1, x2), f) ∧ ((k + 1 ≤ 12 ∧ x1 = n + k ∧ x2 = 1 ∧ f = 0) ∨ (12 < k + 1 ∧ x1 = 0 ∧ x2 = 0 ∧ f = 2)) := by
        rw [chain_eval n ⟨n0, n1⟩ k hK15]
        by_cases hg : k + 1 ≤ 12
        · rw [if_pos hg]; exact ⟨_, _, _, rfl, .inl ⟨hg, rfl, rfl, rfl⟩⟩
        · rw [if_neg hg]; exact ⟨_, _, _, rfl, .inr ⟨by omega, rfl, rfl, rfl⟩⟩
      obtain ⟨x1, x2, f, hE, hcase⟩ := hE
      have HE := Lib.hid hE
      have HC := Lib.hid hcase
      clear hE hcase
      go_upto_region 11 with (go_at_call 17; (with_reducible refine (eval_ex [(priceB, n)] (chainE k) _ _ _ _ (Hr.out.ext (by with_reducible repeat (first | exact Ext.refl _ | assumption | apply Ext.drewN | apply Ext.drew | apply Ext.alloc | (refine Ext.setCell ?_ (by simp <;> omega) _) | (refine Ext.trans ?_ (by assumption))))) (vrd1 (block_new rfl) (VR.one (by omega) (by omega))) HE.out).mono ?_); rintro e w3 ⟨rfl, hb3⟩)
      have hV : VRd All w3 [(priceB, n)] (.slice (some ⟨wr.heap.size, 0, none⟩) 1 1) := (vrd1 (block_new (w := wr) rfl) (VR.one (by omega) (by omega))).ext hb3
      have HV := Lib.hid hV
      have hx3 : Ext w w3 := (by with_reducible repeat (first | exact Ext.refl _ | assumption | apply Ext.drewN | apply Ext.drew | apply Ext.alloc | (refine Ext.setCell ?_ (by simp <;> omega) _) | (refine Ext.trans ?_ (by assumption))))
      have hx4 : Ext w3 (w3.alloc (.cells #[.int .i64 x1, .int .i64 x2] 26)) := (by with_reducible repeat (first | exact Ext.refl _ | assumption | apply Ext.drewN | apply Ext.drew | apply Ext.alloc | (refine Ext.setCell ?_ (by simp <;> omega) _) | (refine Ext.trans ?_ (by assumption))))
      have c100 : (w3.alloc (.cells #[.int .i64 x1, .int .i64 x2] 26)).cell? ⟨w3.heap.size, 0, none⟩ = some (.int .i64 x1) := by go_simp
      have c101 : (w3.alloc (.cells #[.int .i64 x1, .int .i64 x2] 26)).cell? ⟨w3.heap.size, 1, none⟩ = some (.int .i64 x2) := by go_simp
      have l10 : w3.heap.size < (w3.alloc (.cells #[.int .i64 x1, .int .i64 x2] 26)).heap.size := by simp
      clear hV e0 e1 e2 e3 e4 e5 f0 f1 f2 f3 f4 hb3
      generalize w3.alloc (.cells #[.int .i64 x1, .int .i64 x2] 26) = W4 at *
      rw [HK.out]
      go_cut [13, 70] (fun s13 s wx => s = .bool false ∧ Ext W4 wx)
      case first =>
        have wn : IntKind.i64.wrap n = n := by rw [IntKind.wrap_i64]; omega
        have wk : IntKind.i64.wrap (n + (k : Int)) = n + k := by rw [IntKind.wrap_i64]; omega
        rcases HC.out with ⟨hg, rfl, rfl, rfl⟩ | ⟨hg, rfl, rfl, rfl⟩
        · rw [decide_eq_true (show (k : Int) + 1 ≤ 12 by omega)]
          refine Rr.wp_region ((List.range 23).map (fun i => (i, .y))) (fun _ => (.cells #[] 29, Rg.ptr)) (by kernel_rfl) (by kernel_rfl) ?_
          simp only [List.range, List.range.loop, List.map_cons, List.map_nil]
          (refine Rr.wr_y (by simp only [List.getElem?_toArray, List.getElem?_cons_succ, List.getElem?_cons_zero]; rfl) (by rfl) ?_
           apply Exists.intro
           refine ⟨fun wz hw _ => ?_, ?_⟩
           · have hcz := hw.cells.1
             go_simp
             (with_reducible exact Rg.up_value)
           simp only [Act.put, List.setIfInBounds_toArray, List.set_cons_zero, List.set_cons_succ])
          (refine Rr.wr_y (by simp only [List.getElem?_toArray, List.getElem?_cons_succ, List.getElem?_cons_zero]; rfl) (by rfl) ?_
           apply Exists.intro
           refine ⟨fun wz hw _ => ?_, ?_⟩
           · have hcz := hw.cells.1
             go_simp
             (with_reducible exact Rg.up_value)
           simp only [Act.put, List.setIfInBounds_toArray, List.set_cons_zero, List.set_cons_succ])
          (refine Rr.wr_y (by simp only [List.getElem?_toArray, List.getElem?_cons_succ, List.getElem?_cons_zero]; rfl) (by rfl) ?_
           apply Exists.intro
           refine ⟨fun wz hw _ => ?_, ?_⟩
           · have hcz := hw.cells.1
             go_simp
             (with_reducible exact Rg.up_value)
           simp only [Act.put, List.setIfInBounds_toArray, List.set_cons_zero, List.set_cons_succ])
          (refine Rr.wr_y (by simp only [List.getElem?_toArray, List.getElem?_cons_succ, List.getElem?_cons_zero]; rfl) (by rfl) ?_
           apply Exists.intro
           refine ⟨fun wz hw _ => ?_, ?_⟩
           · have hcz := hw.cells.1
             go_simp
             (with_reducible exact Rg.up_value)
           simp only [Act.put, List.setIfInBounds_toArray, List.set_cons_zero, List.set_cons_succ])
          (refine Rr.wr_y (by simp only [List.getElem?_toArray, List.getElem?_cons_succ, List.getElem?_cons_zero]; rfl) (by rfl) ?_
           apply Exists.intro
           refine ⟨fun wz hw _ => ?_, ?_⟩
           · have hcz := hw.cells.1
             go_simp
             (with_reducible exact Rg.up_value)
           simp only [Act.put, List.setIfInBounds_toArray, List.set_cons_zero, List.set_cons_succ])
          (refine Rr.wr_y (by simp only [List.getElem?_toArray, List.getElem?_cons_succ, List.getElem?_cons_zero]; rfl) (by rfl) ?_
           apply Exists.intro
           refine ⟨fun wz hw _ => ?_, ?_⟩
           · have hcz := hw.cells.1
             go_simp
             (with_reducible exact Rg.up_value)
           simp only [Act.put, List.setIfInBounds_toArray, List.set_cons_zero, List.set_cons_succ])
          (refine Rr.wr_y (by simp only [List.getElem?_toArray, List.getElem?_cons_succ, List.getElem?_cons_zero]; rfl) (by rfl) ?_
           apply Exists.intro
           refine ⟨fun wz hw _ => ?_, ?_⟩
           · have hcz := hw.cells.1
             go_simp
             (with_reducible exact Rg.up_value)
           simp only [Act.put, List.setIfInBounds_toArray, List.set_cons_zero, List.set_cons_succ])
          (refine Rr.wr_y (by simp only [List.getElem?_toArray, List.getElem?_cons_succ, List.getElem?_cons_zero]; rfl) (by rfl) ?_
           apply Exists.intro
           refine ⟨fun wz hw _ => ?_, ?_⟩
           · have hcz := hw.cells.1
             exact up_load26 (by rfl) ((hcz _ _ l10).trans c100) ((hcz _ _ l10).trans c101)
           simp only [Act.put, List.setIfInBounds_toArray, List.set_cons_zero, List.set_cons_succ])
          (refine Rr.wr_y (by simp only [List.getElem?_toArray, List.getElem?_cons_succ, List.getElem?_cons_zero]; rfl) (by rfl) ?_
           apply Exists.intro
           refine ⟨fun wz hw _ => ?_, ?_⟩
           · have hcz := hw.cells.1
             go_simp
             (with_reducible exact Rg.up_value)
           simp only [Act.put, List.setIfInBounds_toArray, List.set_cons_zero, List.set_cons_succ])
          (refine Rr.wr_y (by simp only [List.getElem?_toArray, List.getElem?_cons_succ, List.getElem?_cons_zero]; rfl) (by rfl) ?_
           apply Exists.intro
           refine ⟨fun wz hw _ => ?_, ?_⟩
           · have hcz := hw.cells.1
             go_simp
             (with_reducible exact Rg.up_value)
           simp only [Act.put, List.setIfInBounds_toArray, List.set_cons_zero, List.set_cons_succ])
          (refine Rr.wr_y (by simp only [List.getElem?_toArray, List.getElem?_cons_succ, List.getElem?_cons_zero]; rfl) (by rfl) ?_
           apply Exists.intro
           refine ⟨fun wz hw _ => ?_, ?_⟩
           · have hcz := hw.cells.1
             go_simp
             (with_reducible exact Rg.up_value)
           simp only [Act.put, List.setIfInBounds_toArray, List.set_cons_zero, List.set_cons_succ])
          (refine Rr.wr_y (by simp only [List.getElem?_toArray, List.getElem?_cons_succ, List.getElem?_cons_zero]; rfl) (by rfl) ?_
           apply Exists.intro
           refine ⟨fun wz hw _ => ?_, ?_⟩
           · have hcz := hw.cells.1
             go_simp
             (with_reducible exact Rg.up_value)
           simp only [Act.put, List.setIfInBounds_toArray, List.set_cons_zero, List.set_cons_succ])
          (refine Rr.wr_y (by simp only [List.getElem?_toArray, List.getElem?_cons_succ, List.getElem?_cons_zero]; rfl) (by rfl) ?_
           apply Exists.intro
           refine ⟨fun wz hw _ => ?_, ?_⟩
           · have hcz := hw.cells.1
             go_simp
             apply Rg.up_enter
             (with_reducible refine (refOf_any _ _).mono ?_)
             rintro e w3 ⟨rfl, hb3⟩
             exact ⟨rfl, hb3⟩
           simp only [Act.put, List.setIfInBounds_toArray, List.set_cons_zero, List.set_cons_succ])
          (refine Rr.wr_y (by simp only [List.getElem?_toArray, List.getElem?_cons_succ, List.getElem?_cons_zero]; rfl) (by rfl) ?_
           apply Exists.intro
           refine ⟨fun wz hw _ => ?_, ?_⟩
           · have hcz := hw.cells.1
             go_simp
             (with_reducible exact Rg.up_value)
           simp only [Act.put, List.setIfInBounds_toArray, List.set_cons_zero, List.set_cons_succ])
          (refine Rr.wr_y (by simp only [List.getElem?_toArray, List.getElem?_cons_succ, List.getElem?_cons_zero]; rfl) (by rfl) ?_
           apply Exists.intro
           refine ⟨fun wz hw _ => ?_, ?_⟩
           · have hcz := hw.cells.1
             go_simp
             (with_reducible exact Rg.up_value)
           simp only [Act.put, List.setIfInBounds_toArray, List.set_cons_zero, List.set_cons_succ])
          (refine Rr.wr_y (by simp only [List.getElem?_toArray, List.getElem?_cons_succ, List.getElem?_cons_zero]; rfl) (by rfl) ?_
           apply Exists.intro
           refine ⟨fun wz hw _ => ?_, ?_⟩
           · have hcz := hw.cells.1
             go_simp
             (with_reducible exact Rg.up_value)
           simp only [Act.put, List.setIfInBounds_toArray, List.set_cons_zero, List.set_cons_succ])
          (refine Rr.wr_y (by simp only [List.getElem?_toArray, List.getElem?_cons_succ, List.getElem?_cons_zero]; rfl) (by rfl) ?_
           apply Exists.intro
           refine ⟨fun wz hw _ => ?_, ?_⟩
           · have hcz := hw.cells.1
             go_simp
             (with_reducible exact Rg.up_value)
           simp only [Act.put, List.setIfInBounds_toArray, List.set_cons_zero, List.set_cons_succ])
          (refine Rr.wr_y (by simp only [List.getElem?_toArray, List.getElem?_cons_succ, List.getElem?_cons_zero]; rfl) (by rfl) ?_
           apply Exists.intro
           refine ⟨fun wz hw _ => ?_, ?_⟩
           · have hcz := hw.cells.1
             go_simp
             (with_reducible exact Rg.up_value)
           simp only [Act.put, List.setIfInBounds_toArray, List.set_cons_zero, List.set_cons_succ])
          (refine Rr.wr_y (by simp only [List.getElem?_toArray, List.getElem?_cons_succ, List.getElem?_cons_zero]; rfl) (by rfl) ?_
           apply Exists.intro
           refine ⟨fun wz hw _ => ?_, ?_⟩
           · have hcz := hw.cells.1
             go_simp
             (with_reducible exact Rg.up_value)
           simp only [Act.put, List.setIfInBounds_toArray, List.set_cons_zero, List.set_cons_succ])
          (refine Rr.wr_y (by simp only [List.getElem?_toArray, List.getElem?_cons_succ, List.getElem?_cons_zero]; rfl) (by rfl) ?_
           apply Exists.intro
           refine ⟨fun wz hw _ => ?_, ?_⟩
           · have hcz := hw.cells.1
             go_simp
             (with_reducible exact Rg.up_value)
           simp only [Act.put, List.setIfInBounds_toArray, List.set_cons_zero, List.set_cons_succ])
          refine Rr.wr_skip (by simp only [List.getElem?_toArray, List.getElem?_cons_succ, List.getElem?_cons_zero]; rfl) (by rfl) ?_
          simp only [Act.put, List.setIfInBounds_toArray, List.set_cons_zero, List.set_cons_succ]
          refine Rr.wr_skip (by simp only [List.getElem?_toArray, List.getElem?_cons_succ, List.getElem?_cons_zero]; rfl) (by rfl) ?_
          simp only [Act.put, List.setIfInBounds_toArray, List.set_cons_zero, List.set_cons_succ]
          (refine Rr.wr_y (by simp only [List.getElem?_toArray, List.getElem?_cons_succ, List.getElem?_cons_zero]; rfl) (by rfl) ?_
           apply Exists.intro
           refine ⟨fun wz hw _ => ?_, ?_⟩
           · have hcz := hw.cells.1
             go_simp
             (with_reducible exact Rg.up_value)
           simp only [Act.put, List.setIfInBounds_toArray, List.set_cons_zero, List.set_cons_succ])
          refine Rr.wr_nil ?_
          intro wy hy hh
          simp only [List.length_cons, List.length_nil, List.drop_succ_cons, List.drop_zero, Nat.reduceAdd]
          clear hh
          go_wp2
          go_meet
          case rel => exact ⟨rfl, hy⟩
        · rw [decide_eq_false (show ¬ (k : Int) + 1 ≤ 12 by omega)]
          refine Rr.wp_region ((List.range 23).map (fun i => (i, .y))) (fun _ => (.cells #[] 29, Rg.ptr)) (by kernel_rfl) (by kernel_rfl) ?_
          simp only [List.range, List.range.loop, List.map_cons, List.map_nil]
          (refine Rr.wr_y (by simp only [List.getElem?_toArray, List.getElem?_cons_succ, List.getElem?_cons_zero]; rfl) (by rfl) ?_
           apply Exists.intro
           refine ⟨fun wz hw _ => ?_, ?_⟩
           · have hcz := hw.cells.1
             go_simp
             (with_reducible exact Rg.up_value)
           simp only [Act.put, List.setIfInBounds_toArray, List.set_cons_zero, List.set_cons_succ])
          (refine Rr.wr_y (by simp only [List.getElem?_toArray, List.getElem?_cons_succ, List.getElem?_cons_zero]; rfl) (by rfl) ?_
           apply Exists.intro
           refine ⟨fun wz hw _ => ?_, ?_⟩
           · have hcz := hw.cells.1
             go_simp
             (with_reducible exact Rg.up_value)
           simp only [Act.put, List.setIfInBounds_toArray, List.set_cons_zero, List.set_cons_succ])
          (refine Rr.wr_y (by simp only [List.getElem?_toArray, List.getElem?_cons_succ, List.getElem?_cons_zero]; rfl) (by rfl) ?_
           apply Exists.intro
           refine ⟨fun wz hw _ => ?_, ?_⟩
           · have hcz := hw.cells.1
             go_simp
             (with_reducible exact Rg.up_value)
           simp only [Act.put, List.setIfInBounds_toArray, List.set_cons_zero, List.set_cons_succ])
          (refine Rr.wr_y (by simp only [List.getElem?_toArray, List.getElem?_cons_succ, List.getElem?_cons_zero]; rfl) (by rfl) ?_
           apply Exists.intro
           refine ⟨fun wz hw _ => ?_, ?_⟩
           · have hcz := hw.cells.1
             go_simp
             (with_reducible exact Rg.up_value)
           simp only [Act.put, List.setIfInBounds_toArray, List.set_cons_zero, List.set_cons_succ])
          (refine Rr.wr_y (by simp only [List.getElem?_toArray, List.getElem?_cons_succ, List.getElem?_cons_zero]; rfl) (by rfl) ?_
           apply Exists.intro
           refine ⟨fun wz hw _ => ?_, ?_⟩
           · have hcz := hw.cells.1
             go_simp
             (with_reducible exact Rg.up_value)
           simp only [Act.put, List.setIfInBounds_toArray, List.set_cons_zero, List.set_cons_succ])
          (refine Rr.wr_y (by simp only [List.getElem?_toArray, List.getElem?_cons_succ, List.getElem?_cons_zero]; rfl) (by rfl) ?_
           apply Exists.intro
           refine ⟨fun wz hw _ => ?_, ?_⟩
           · have hcz := hw.cells.1
             go_simp
             (with_reducible exact Rg.up_value)
           simp only [Act.put, List.setIfInBounds_toArray, List.set_cons_zero, List.set_cons_succ])
          (refine Rr.wr_y (by simp only [List.getElem?_toArray, List.getElem?_cons_succ, List.getElem?_cons_zero]; rfl) (by rfl) ?_
           apply Exists.intro
           refine ⟨fun wz hw _ => ?_, ?_⟩
           · have hcz := hw.cells.1
             go_simp
             (with_reducible exact Rg.up_value)
           simp only [Act.put, List.setIfInBounds_toArray, List.set_cons_zero, List.set_cons_succ])
          refine Rr.wr_skip (by simp only [List.getElem?_toArray, List.getElem?_cons_succ, List.getElem?_cons_zero]; rfl) (by rfl) ?_
          simp only [Act.put, List.setIfInBounds_toArray, List.set_cons_zero, List.set_cons_succ]
          refine Rr.wr_skip (by simp only [List.getElem?_toArray, List.getElem?_cons_succ, List.getElem?_cons_zero]; rfl) (by rfl) ?_
          simp only [Act.put, List.setIfInBounds_toArray, List.set_cons_zero, List.set_cons_succ]
          refine Rr.wr_skip (by simp only [List.getElem?_toArray, List.getElem?_cons_succ, List.getElem?_cons_zero]; rfl) (by rfl) ?_
          simp only [Act.put, List.setIfInBounds_toArray, List.set_cons_zero, List.set_cons_succ]
          refine Rr.wr_skip (by simp only [List.getElem?_toArray, List.getElem?_cons_succ, List.getElem?_cons_zero]; rfl) (by rfl) ?_
          simp only [Act.put, List.setIfInBounds_toArray, List.set_cons_zero, List.set_cons_succ]
          refine Rr.wr_skip (by simp only [List.getElem?_toArray, List.getElem?_cons_succ, List.getElem?_cons_zero]; rfl) (by rfl) ?_
          simp only [Act.put, List.setIfInBounds_toArray, List.set_cons_zero, List.set_cons_succ]
          refine Rr.wr_skip (by simp only [List.getElem?_toArray, List.getElem?_cons_succ, List.getElem?_cons_zero]; rfl) (by rfl) ?_
          simp only [Act.put, List.setIfInBounds_toArray, List.set_cons_zero, List.set_cons_succ]
          refine Rr.wr_skip (by simp only [List.getElem?_toArray, List.getElem?_cons_succ, List.getElem?_cons_zero]; rfl) (by rfl) ?_
          simp only [Act.put, List.setIfInBounds_toArray, List.set_cons_zero, List.set_cons_succ]
          (refine Rr.wr_y (by simp only [List.getElem?_toArray, List.getElem?_cons_succ, List.getElem?_cons_zero]; rfl) (by rfl) ?_
           apply Exists.intro
           refine ⟨fun wz hw _ => ?_, ?_⟩
           · have hcz := hw.cells.1
             go_simp
             (with_reducible exact Rg.up_value)
           simp only [Act.put, List.setIfInBounds_toArray, List.set_cons_zero, List.set_cons_succ])
          (refine Rr.wr_y (by simp only [List.getElem?_toArray, List.getElem?_cons_succ, List.getElem?_cons_zero]; rfl) (by rfl) ?_
           apply Exists.intro
           refine ⟨fun wz hw _ => ?_, ?_⟩
           · have hcz := hw.cells.1
             go_simp
             (with_reducible exact Rg.up_value)
           simp only [Act.put, List.setIfInBounds_toArray, List.set_cons_zero, List.set_cons_succ])
          (refine Rr.wr_y (by simp only [List.getElem?_toArray, List.getElem?_cons_succ, List.getElem?_cons_zero]; rfl) (by rfl) ?_
           apply Exists.intro
           refine ⟨fun wz hw _ => ?_, ?_⟩
           · have hcz := hw.cells.1
             go_simp
             (with_reducible exact Rg.up_value)
           simp only [Act.put, List.setIfInBounds_toArray, List.set_cons_zero, List.set_cons_succ])
          (refine Rr.wr_y (by simp only [List.getElem?_toArray, List.getElem?_cons_succ, List.getElem?_cons_zero]; rfl) (by rfl) ?_
           apply Exists.intro
           refine ⟨fun wz hw _ => ?_, ?_⟩
           · have hcz := hw.cells.1
             go_simp
             (with_reducible exact Rg.up_value)
           simp only [Act.put, List.setIfInBounds_toArray, List.set_cons_zero, List.set_cons_succ])
          (refine Rr.wr_y (by simp only [List.getElem?_toArray, List.getElem?_cons_succ, List.getElem?_cons_zero]; rfl) (by rfl) ?_
           apply Exists.intro
           refine ⟨fun wz hw _ => ?_, ?_⟩
           · have hcz := hw.cells.1
             go_simp
             (with_reducible exact Rg.up_value)
           simp only [Act.put, List.setIfInBounds_toArray, List.set_cons_zero, List.set_cons_succ])
          (refine Rr.wr_y (by simp only [List.getElem?_toArray, List.getElem?_cons_succ, List.getElem?_cons_zero]; rfl) (by rfl) ?_
           apply Exists.intro
           refine ⟨fun wz hw _ => ?_, ?_⟩
           · have hcz := hw.cells.1
             go_simp
             (with_reducible exact Rg.up_value)
           simp only [Act.put, List.setIfInBounds_toArray, List.set_cons_zero, List.set_cons_succ])
          (refine Rr.wr_y (by simp only [List.getElem?_toArray, List.getElem?_cons_succ, List.getElem?_cons_zero]; rfl) (by rfl) ?_
           apply Exists.intro
           refine ⟨fun wz hw _ => ?_, ?_⟩
           · have hcz := hw.cells.1
             go_simp
             (with_reducible exact Rg.up_value)
           simp only [Act.put, List.setIfInBounds_toArray, List.set_cons_zero, List.set_cons_succ])
          (refine Rr.wr_y (by simp only [List.getElem?_toArray, List.getElem?_cons_succ, List.getElem?_cons_zero]; rfl) (by rfl) ?_
           apply Exists.intro
           refine ⟨fun wz hw _ => ?_, ?_⟩
           · have hcz := hw.cells.1
             go_simp
             (with_reducible exact Rg.up_value)
           simp only [Act.put, List.setIfInBounds_toArray, List.set_cons_zero, List.set_cons_succ])
          (refine Rr.wr_y (by simp only [List.getElem?_toArray, List.getElem?_cons_succ, List.getElem?_cons_zero]; rfl) (by rfl) ?_
           apply Exists.intro
           refine ⟨fun wz hw _ => ?_, ?_⟩
           · have hcz := hw.cells.1
             go_simp
             (with_reducible exact Rg.up_value)
           simp only [Act.put, List.setIfInBounds_toArray, List.set_cons_zero, List.set_cons_succ])
          refine Rr.wr_nil ?_
          intro wy hy hh
          simp only [List.length_cons, List.length_nil, List.drop_succ_cons, List.drop_zero, Nat.reduceAdd]
          clear hh
          go_wp2
          go_meet
          case rel => exact ⟨rfl, hy⟩
      case rest =>
        obtain ⟨wd, rfl⟩ : ∃ wd : World, wd = wc := ⟨_, rfl⟩
        obtain ⟨rfl, hxd⟩ := hcut
        have HV2 := Lib.hid (HV.out.ext (hx4.trans hxd))
        have hxw : Ext w wd := (by with_reducible repeat (first | exact Ext.refl _ | assumption | apply Ext.drewN | apply Ext.drew | apply Ext.alloc | (refine Ext.setCell ?_ (by simp <;> omega) _) | (refine Ext.trans ?_ (by assumption))))
        clear HV HC HE hx3 hx4 hxd c100 c101 l10
        clear hP hPw hx lp Hr Hp
        generalize wr.heap.size = p9 at *
        generalize w3.heap.size = p10 at *
        obtain ⟨M, hM⟩ := Int.eq_ofNat_of_zero_le (show 0 ≤ b % 40 + 1 by omega)
        have hM1 : 1 ≤ M := by omega
        have hM2 : M ≤ 40 := by omega
        have HM := Lib.hid hM
        clear hM
        go_wp2_with (fail)
        rw [HM.out]
        go_loopw [14, 15, 74] (fun pr l i wr => ∃ j : Nat, j ≤ M ∧ i = .int .u8 j ∧ pr = .int .i64 j ∧ FR wd.heap.size wr l (List.replicate j (nameE priceB)) ∧ Ext wd wr) (fun _ _ i _ => M - (intOf i).toNat)
        case atStart => exact ⟨0, Nat.zero_le _, by go_num, by go_num, FR.nil _ _, Ext.refl _⟩
        case round =>
          obtain ⟨j, hj, rfl, rfl, hF, hx⟩ := hrel
          have HF := Lib.hid hF
          clear hF
          rcases Nat.lt_or_ge j M with hlt | hge
          · have hj2 : (j : Int) < 40 := by omega
            go_wp2_with (first
              | (go_at_call 30; (with_reducible refine (name_any _ _).mono ?_); rintro e w5 ⟨rfl, hb5⟩)
              | (at_builtin; refine append_tree rfl (.tmp 76) (.tmp 78) rfl wd.heap.size _ (List.replicate j (nameE priceB)) (by rfl) (HF.out.ext (by with_reducible repeat (first | exact Ext.refl _ | assumption | apply Ext.drewN | apply Ext.drew | apply Ext.alloc | (refine Ext.setCell ?_ (by simp <;> omega) _) | (refine Ext.trans ?_ (by assumption))))) w5.heap.size (leafV nameB (0, 0) priceB) (nameE priceB) (by rfl) (block_new rfl) (Rd.leaf I2.zero) (by simp; omega) (by have := hx.size; have := hb5.size; simp; omega) ?_; intro g cap w6 hF6 hb6))
            go_roundw
            case rel =>
              refine ⟨j + 1, by omega, by go_num, by go_num, ?_, ?_⟩
              · rw [List.replicate_succ']
                simpa using hF6
              · have h1 : Ext wr (w5.alloc (.cells #[.string nameB, .int .i64 0, .int .i64 0, .string priceB, .slice none 0 0] 29)) := (by with_reducible repeat (first | exact Ext.refl _ | assumption | apply Ext.drewN | apply Ext.drew | apply Ext.alloc | (refine Ext.setCell ?_ (by simp <;> omega) _) | (refine Ext.trans ?_ (by assumption))))
                exact Below.trans (Ext.trans hx h1) hb6
            case measure => simp [intOf]; omega
          · obtain rfl : j = M := by omega
            have hL := Sml.reps n j
            obtain ⟨g, cap1, rfl, hgl⟩ := HF.out.form (by simp; omega)
            rw [List.length_replicate] at HF ⊢
            obtain ⟨we, rfl⟩ : ∃ we : World, we = wr := ⟨_, rfl⟩
            have hwe : Ext w we := hxw.trans hx
            have HV3 := Lib.hid (HV2.out.ext hx)
            have hL := Lib.hid hL
            clear HV2 hx HK
            go_wp2_with (fail)
            go_loopw [14, 15] (fun pr l wo => ∃ (ts : List Ex) (B g cap d q : Nat), l = .slice (some ⟨g, 0, none⟩) ts.length cap ∧ pr = .int .i64 q ∧ 1 ≤ ts.length ∧ ts.length ≤ 40 ∧ FR B wo l ts ∧ Sml n d ts j ∧ Hid (q + ts.length = 2 * j) ∧ LenOk d ts.length ∧ Ext we wo) (fun _ l _ => match l with | .slice _ m _ => m | _ => 0)
            case atStart => exact ⟨List.replicate j (nameE priceB), _, g, cap1, 1, j, by rw [List.length_replicate], rfl, by simp; omega, by simp; omega, HF.out, hL.out, Lib.hid (by simp; omega), .inl ⟨rfl, by simp; omega⟩, Ext.refl _⟩
            case round =>
              obtain ⟨ts, B, g, cap, d, q, rfl, rfl, hl1, hl40, hF, hS, hq, hd, hx⟩ := hrel
              obtain ⟨wo, rfl⟩ : ∃ wo : World, wo = wr := ⟨_, rfl⟩
              have HF := Lib.hid hF
              have HS := Lib.hid hS
              have HD := Lib.hid hd
              clear hF hS hd
              rcases Nat.lt_or_ge 1 ts.length with hlt | hge
              · go_wp2_with (fail)
                rw [decide_eq_true (show (1 : Int) < (ts.length : Int) by omega)]
                go_loopw [14, 17, 18] (fun pr nxs kk wi => ∃ (nx : Value) (us : List Ex) (i m1 m2 : Nat), nx = nxs ∧ kk = .int .i64 i ∧ Hid (i = 2 * us.length) ∧ i ≤ ts.length ∧ pr = .int .i64 (q + us.length : Nat) ∧ us.length ≤ 40 ∧ FR wo.heap.size wi nx us ∧ Sml n (d + 1) us m1 ∧ Sml n d (ts.drop i) m2 ∧ Hid (m1 + m2 = j) ∧ Ext wo wi) (fun _ _ kk _ => ts.length - (intOf kk).toNat)
                case atStart => exact ⟨_, [], 0, 0, j, rfl, by go_num, Lib.hid rfl, Nat.zero_le _, rfl, by simp, FR.nil _ _, rfl, HS.out, Lib.hid (Nat.zero_add _), Ext.refl _⟩
                case round =>
                  obtain ⟨nx, us, i, m1, m2, hnx, rfl, hi, hil, rfl, hul, hFu, hS1, hS2, hm, hxi⟩ := hrel
                  subst hnx
                  obtain ⟨wi, rfl⟩ : ∃ wi : World, wi = wr := ⟨_, rfl⟩
                  have HFu := Lib.hid hFu
                  have HS1 := Lib.hid hS1
                  have HS2 := Lib.hid hS2
                  clear hFu hS1 hS2
                  rcases Nat.lt_or_ge (i + 1) ts.length with hlt2 | hge2
                  · obtain ⟨oa, a1, a2, na, ba, la, ca, hgl1, hc1, hr1⟩ := HF.out.at i (by omega)
                    obtain ⟨ob, b1, b2, nb, bb, lb, cb, -, hc2, hr2⟩ := HF.out.at (i + 1) hlt2
                    obtain ⟨d0, d1, d2, d3, d4, lg⟩ := cells_at hc1 hxi hgl1
                    obtain ⟨d5, d6, d7, d8, d9, -⟩ := cells_at hc2 hxi hgl1
                    have hown := HFu.out.own
                    have r1 := Lib.hid ((hr1.off (v := nx) (fun k hk => (hown k hk).1)).ext hxi)
                    have r2 := Lib.hid ((hr2.off (v := nx) (fun k hk => (hown k hk).1)).ext hxi)
                    have ho := Lib.hid (show ∀ b, wi.heap.size ≤ b → Off nx b from fun b hb e => by have := (hown b e).2; omega)
                    have i40 : (i : Int) < 40 := by omega
                    have hi1 : i < ts.length := by omega
                    have hqb : (q : Int) ≤ 100 := by have := hq.out; omega
                    have hub : (us.length : Int) ≤ 40 := by omega
                    clear hown hr1 hr2 hc1 hc2
                    go_wp2_with (fail)
                    have k1 : IntKind.i64.wrap ((i : Int) + 1) = (i : Int) + 1 := by rw [IntKind.wrap_i64]; omega
                    have k2 : 0 ≤ (i : Int) + 1 := by omega
                    have k3 : ((i : Int) + 1).toNat = i + 1 := by omega
                    refine Rr.wp_region [(0, .y), (1, .y), (2, .y), (3, .y), (4, .y), (5, .y), (6, .y), (7, .y), (8, .y), (9, .y), (10, .z), (11, .z)] (fun _ => (.cells #[] 29, Rg.ptr)) (by kernel_rfl) (by kernel_rfl) ?_
                    (refine Rr.wr_y (by simp only [List.getElem?_toArray, List.getElem?_cons_succ, List.getElem?_cons_zero]; rfl) (by rfl) ?_
                     apply Exists.intro
                     refine ⟨fun wz hw _ => ?_, ?_⟩
                     · have hcz := hw.cells.1
                       go_simp
                       (with_reducible exact Rg.up_value)
                     simp only [Act.put, List.setIfInBounds_toArray, List.set_cons_zero, List.set_cons_succ])
                    (refine Rr.wr_y (by simp only [List.getElem?_toArray, List.getElem?_cons_succ, List.getElem?_cons_zero]; rfl) (by rfl) ?_
                     apply Exists.intro
                     refine ⟨fun wz hw _ => ?_, ?_⟩
                     · have hcz := hw.cells.1
                       go_simp
                       (with_reducible exact Rg.up_value)
                     simp only [Act.put, List.setIfInBounds_toArray, List.set_cons_zero, List.set_cons_succ])
                    (refine Rr.wr_y (by simp only [List.getElem?_toArray, List.getElem?_cons_succ, List.getElem?_cons_zero]; rfl) (by rfl) ?_
                     apply Exists.intro
                     refine ⟨fun wz hw _ => ?_, ?_⟩
                     · have hcz := hw.cells.1
                       go_simp
                       (with_reducible exact Rg.up_value)
                     simp only [Act.put, List.setIfInBounds_toArray, List.set_cons_zero, List.set_cons_succ])
                    (refine Rr.wr_y (by simp only [List.getElem?_toArray, List.getElem?_cons_succ, List.getElem?_cons_zero]; rfl) (by rfl) ?_
                     apply Exists.intro
                     refine ⟨fun wz hw _ => ?_, ?_⟩
                     · have hcz := hw.cells.1
                       go_simp
                       (with_reducible exact Rg.up_value)
                     simp only [Act.put, List.setIfInBounds_toArray, List.set_cons_zero, List.set_cons_succ])
                    (refine Rr.wr_y (by simp only [List.getElem?_toArray, List.getElem?_cons_succ, List.getElem?_cons_zero]; rfl) (by rfl) ?_
                     apply Exists.intro
                     refine ⟨fun wz hw _ => ?_, ?_⟩
                     · have hcz := hw.cells.1
                       exact up_load29 (by rfl) ((hcz _ _ lg).trans d0) ((hcz _ _ lg).trans d1) ((hcz _ _ lg).trans d2) ((hcz _ _ lg).trans d3) ((hcz _ _ lg).trans d4)
                     simp only [Act.put, List.setIfInBounds_toArray, List.set_cons_zero, List.set_cons_succ])
                    (refine Rr.wr_y (by simp only [List.getElem?_toArray, List.getElem?_cons_succ, List.getElem?_cons_zero]; rfl) (by rfl) ?_
                     apply Exists.intro
                     refine ⟨fun wz hw _ => ?_, ?_⟩
                     · have hcz := hw.cells.1
                       go_simp
                       (with_reducible exact Rg.up_value)
                     simp only [Act.put, List.setIfInBounds_toArray, List.set_cons_zero, List.set_cons_succ])
                    (refine Rr.wr_y (by simp only [List.getElem?_toArray, List.getElem?_cons_succ, List.getElem?_cons_zero]; rfl) (by rfl) ?_
                     apply Exists.intro
                     refine ⟨fun wz hw _ => ?_, ?_⟩
                     · have hcz := hw.cells.1
                       go_simp
                       (with_reducible exact Rg.up_value)
                     simp only [Act.put, List.setIfInBounds_toArray, List.set_cons_zero, List.set_cons_succ])
                    (refine Rr.wr_y (by simp only [List.getElem?_toArray, List.getElem?_cons_succ, List.getElem?_cons_zero]; rfl) (by rfl) ?_
                     apply Exists.intro
                     refine ⟨fun wz hw _ => ?_, ?_⟩
                     · have hcz := hw.cells.1
                       go_simp
                       (with_reducible exact Rg.up_value)
                     simp only [Act.put, List.setIfInBounds_toArray, List.set_cons_zero, List.set_cons_succ])
                    (refine Rr.wr_y (by simp only [List.getElem?_toArray, List.getElem?_cons_succ, List.getElem?_cons_zero]; rfl) (by rfl) ?_
                     apply Exists.intro
                     refine ⟨fun wz hw _ => ?_, ?_⟩
                     · have hcz := hw.cells.1
                       go_simp
                       (with_reducible exact Rg.up_value)
                     simp only [Act.put, List.setIfInBounds_toArray, List.set_cons_zero, List.set_cons_succ])
                    (refine Rr.wr_y (by simp only [List.getElem?_toArray, List.getElem?_cons_succ, List.getElem?_cons_zero]; rfl) (by rfl) ?_
                     apply Exists.intro
                     refine ⟨fun wz hw _ => ?_, ?_⟩
                     · have hcz := hw.cells.1
                       exact up_load29 (by rfl) ((hcz _ _ lg).trans d5) ((hcz _ _ lg).trans d6) ((hcz _ _ lg).trans d7) ((hcz _ _ lg).trans d8) ((hcz _ _ lg).trans d9)
                     simp only [Act.put, List.setIfInBounds_toArray, List.set_cons_zero, List.set_cons_succ])
                    refine Rr.wr_z (fun v w' => Rd (Off nx) w' (opE' addB ts[i] ts[i + 1]) v) (by simp only [List.getElem?_toArray, List.getElem?_cons_succ, List.getElem?_cons_zero]; rfl) (by rfl) (fun v w1 w2 h e => by first | exact Rd.ext e h) (fun wz hw hh => ?_) (fun u => ?_)
                    · have hcz := hw.cells.1
                      go_simp
                      apply Rr.upR_enter
                      (with_reducible refine (op_any (Off nx) addB ts[i] ts[i + 1] _ _ _ (r1.out.ext (by with_reducible repeat (first | exact Ext.refl _ | assumption | apply Ext.drewN | apply Ext.drew | apply Ext.alloc | (refine Ext.setCell ?_ (by simp <;> omega) _) | (refine Ext.trans ?_ (by assumption))))) (r2.out.ext (by with_reducible repeat (first | exact Ext.refl _ | assumption | apply Ext.drewN | apply Ext.drew | apply Ext.alloc | (refine Ext.setCell ?_ (by simp <;> omega) _) | (refine Ext.trans ?_ (by assumption))))) (fun b hb => ho.out b (Nat.le_trans hw.size hb))).mono ?_)
                      rintro e w3 ⟨v3, rfl, hx3, hr3⟩
                      exact ⟨v3, rfl, hx3, hr3⟩
                    simp only [Act.put, List.setIfInBounds_toArray, List.set_cons_zero, List.set_cons_succ]
                    refine Rr.wr_z (fun v w' => ∃ p, v = .slice (some ⟨p, 0, none⟩) 1 1 ∧ w'.heap[p]? = some (.cells (cellsV u).toArray 29)) (by simp only [List.getElem?_toArray, List.getElem?_cons_succ, List.getElem?_cons_zero]; rfl) (by rfl) (fun v w1 w2 h e => by obtain ⟨p, h1, h2⟩ := h; exact ⟨p, h1, (e.block p (Rg.lt_of_heap h2)).trans h2⟩) (fun wz hw hh => ?_) (fun u2 => ?_)
                    · obtain ⟨o1, o2, o3, o4, o5, o6, o7, hform⟩ := Rd.form (holds_hd hh)
                      subst hform
                      go_simp
                      exact Rr.upR_value (Ext.alloc (Ext.refl _) _) ⟨_, rfl, block_new rfl⟩
                    simp only [Act.put, List.setIfInBounds_toArray, List.set_cons_zero, List.set_cons_succ]
                    refine Rr.wr_nil ?_
                    intro wy hy hh
                    obtain ⟨p, rfl, hp⟩ := holds_hd hh
                    have hr1 := hh _ (List.mem_cons_of_mem _ List.mem_cons_self)
                    have HR1 := Lib.hid hr1
                    have HP := Lib.hid hp
                    simp only [List.length_cons, List.length_nil, List.drop_succ_cons, List.drop_zero, Nat.reduceAdd]
                    clear hh hp hr1 k1 k2 k3
                    refine append_tree rfl (.tmp 95) (.tmp 106) rfl wo.heap.size nx us (by rfl) (HFu.out.ext hy) p _ (opE' addB ts[i] ts[i + 1]) (by rfl) HP.out HR1.out (by omega) (Nat.le_trans hxi.size hy.size) ?_
                    intro g' cap' w6 hF6 hb6
                    have HF6 := Lib.hid hF6
                    clear hF6
                    go_wp2
                    go_roundw
                    case rel =>
                      obtain ⟨c1, c2, m3, s1, s2, s3, hms⟩ := HS2.out.two hi1 hlt2
                      have hm' := hm.out
                      have hi' := hi.out
                      refine ⟨_, us ++ [opE' addB ts[i] ts[i + 1]], i + 2, m1 + (c1 + c2), m3, rfl, by go_num, Lib.hid (by rw [List.length_append, List.length_singleton]; omega), by omega, by rw [List.length_append, List.length_singleton]; go_num, by rw [List.length_append, List.length_singleton]; omega, by simpa using HF6.out, Sml.app HS1.out (Sml.one (Sm.add ⟨n0, n1⟩ s1 s2 (by omega))), s3, Lib.hid (by omega), Below.trans (hxi.trans hy) hb6⟩
                    case measure => simp [intOf]; omega
                  · have him := HS2.out
                    by_cases hodd : i = ts.length
                    · have hev : ts.length = 2 * us.length := by have := hi.out; omega
                      obtain ⟨g', cap', hnx, -⟩ := HFu.out.form (by omega)
                      subst hnx
                      have hmm : m2 = 0 := by rw [hodd, List.drop_length] at him; exact him
                      have Hodd := Lib.hid hodd
                      have Hev := Lib.hid hev
                      have hmod : ((ts.length : Int) % 2 == 1) = false := by rw [beq_eq_false_iff_ne]; omega
                      have Hmm := Lib.hid hmm
                      clear hodd hev hmm him
                      go_wp2
                      go_roundw
                      case rel =>
                        have hev := Hev.out
                        have hm' := hm.out
                        have hq' := hq.out
                        have hmm := Hmm.out
                        exact ⟨us, wo.heap.size, g', cap', d + 1, q + us.length, rfl, rfl, by omega, by omega, HFu.out, by rw [show j = m1 by omega]; exact HS1.out, Lib.hid (by omega), HD.out.next hlt (by omega), hx.trans hxi⟩
                      case measure =>
                        have hev := Hev.out
                        show us.length < ts.length
                        omega
                    · have hev : ts.length = 2 * us.length + 1 := by have := hi.out; omega
                      have hi1 : i < ts.length := by omega
                      obtain ⟨oa, a1, a2, na, ba, la, ca, hgl1, hc1, hr1⟩ := HF.out.at i hi1
                      obtain ⟨d0, d1, d2, d3, d4, lg⟩ := cells_at hc1 hxi hgl1
                      have hown := HFu.out.own
                      have r1 := Lib.hid ((hr1.off (v := nx) (fun k hk => (hown k hk).1)).ext hxi)
                      have s1 := Lib.hid (him.last hi1 (by omega))
                      have Hev := Lib.hid hev
                      have hmod : ((ts.length : Int) % 2 == 1) = true := by rw [beq_iff_eq]; omega
                      have k2 : (0 : Int) ≤ (ts.length : Int) - 1 := by omega
                      have k3 : ((ts.length : Int) - 1).toNat = i := by have := hi.out; omega
                      have k4 : (ts.length : Int) ≤ 40 := by omega
                      clear hev him hown hr1 hc1 hodd
                      go_wp2_with (at_builtin; refine append_tree rfl (.tmp 114) (.tmp 121) rfl wo.heap.size nx us (by rfl) (HFu.out.ext (by with_reducible repeat (first | exact Ext.refl _ | assumption | apply Ext.drewN | apply Ext.drew | apply Ext.alloc | (refine Ext.setCell ?_ (by simp <;> omega) _) | (refine Ext.trans ?_ (by assumption))))) wi.heap.size (.agg #[.string oa, .int .i64 a1, .int .i64 a2, .string na, .slice ba la ca]) ts[i] (by rfl) (block_new rfl) (r1.out.ext (by with_reducible repeat (first | exact Ext.refl _ | assumption | apply Ext.drewN | apply Ext.drew | apply Ext.alloc | (refine Ext.setCell ?_ (by simp <;> omega) _) | (refine Ext.trans ?_ (by assumption))))) (by omega) (by have := hxi.size; simp; omega) ?_; intro g' cap' w6 hF6 hb6)
                      go_roundw
                      case rel =>
                        have hev := Hev.out
                        have hm' := hm.out
                        have hq' := hq.out
                        have h1 : Ext wi (wi.alloc (.cells #[.string oa, .int .i64 a1, .int .i64 a2, .string na, .slice ba la ca] 29)) := (by with_reducible repeat (first | exact Ext.refl _ | assumption | apply Ext.drewN | apply Ext.drew | apply Ext.alloc | (refine Ext.setCell ?_ (by simp <;> omega) _) | (refine Ext.trans ?_ (by assumption))))
                        refine ⟨us ++ [ts[i]], wo.heap.size, g', cap', d + 1, q + us.length, by rw [List.length_append, List.length_singleton], by go_num, by rw [List.length_append, List.length_singleton]; omega, by rw [List.length_append, List.length_singleton]; omega, hF6, ?_, Lib.hid (by rw [List.length_append, List.length_singleton]; omega), by rw [List.length_append, List.length_singleton]; exact HD.out.next hlt (by omega), hx.trans (Below.trans (hxi.trans h1) hb6)⟩
                        rw [← hm']
                        exact Sml.app HS1.out (Sml.one (s1.out.more (Nat.le_succ d)))
                      case measure =>
                        have hev := Hev.out
                        show us.length + 1 < ts.length
                        omega
              · have h1 : ts.length = 1 := by omega
                obtain ⟨oa, a1, a2, na, ba, la, ca, hgl1, hc1, hr1⟩ := HF.out.at 0 hl1
                obtain ⟨d0, d1, d2, d3, d4, lg⟩ := cells_at hc1 (Ext.refl wo) hgl1
                rw [Nat.zero_mul] at d0 d1 d2 d3 d4
                have hs1 : Sm n j d ts[0] := Sml.last (i := 0) HS.out hl1 (by omega)
                have hev := hs1.eval (by have := HD.out.le; omega)
                have hpr : q + 1 = 2 * j := by have := hq.out; omega
                have rt := Lib.hid (Rd.frame (S' := All) (fun _ _ _ _ => rfl) (fun _ _ => trivial) _ _ hr1)
                have hdec : decide ((1 : Int) < (ts.length : Int)) = false := by rw [decide_eq_false_iff_not]; omega
                have hqb : (q : Int) ≤ 100 := by omega
                have EV := Lib.hid hev
                have PR := Lib.hid hpr
                have H1 := Lib.hid h1
                have hxv := hwe.trans hx
                clear hr1 hc1 hs1 hev hpr h1
                by_cases hbig : 60 < 2 * j - 1
                · have EV2 := Lib.hid (EV.out.trans (if_pos hbig))
                  have hgt : (60 : Int) < (q : Int) := by have := PR.out; omega
                  clear EV hbig
                  go_wp2_with (go_at_call 17; (with_reducible refine (eval_ex [(priceB, n)] ts[0] _ _ _ _ (rt.out.ext (by with_reducible repeat (first | exact Ext.refl _ | assumption | apply Ext.drewN | apply Ext.drew | apply Ext.alloc | (refine Ext.setCell ?_ (by simp <;> omega) _) | (refine Ext.trans ?_ (by assumption))))) (HV3.out.ext (Ext.trans hx (by with_reducible repeat (first | exact Ext.refl _ | assumption | apply Ext.drewN | apply Ext.drew | apply Ext.alloc | (refine Ext.setCell ?_ (by simp <;> omega) _) | (refine Ext.trans ?_ (by assumption)))))) EV2.out).mono ?_); rintro e w7 ⟨rfl, hb7⟩)
                  go_ret
                  exact ⟨rfl, (by with_reducible repeat (first | exact Ext.refl _ | assumption | apply Ext.drewN | apply Ext.drew | apply Ext.alloc | (refine Ext.setCell ?_ (by simp <;> omega) _) | (refine Ext.trans ?_ (by assumption))))⟩
                · have EV2 := Lib.hid (EV.out.trans (if_neg hbig))
                  have hgt : (q : Int) ≤ 60 := by have := PR.out; omega
                  clear EV hbig
                  go_wp2_with (go_at_call 17; (with_reducible refine (eval_ex [(priceB, n)] ts[0] _ _ _ _ (rt.out.ext (by with_reducible repeat (first | exact Ext.refl _ | assumption | apply Ext.drewN | apply Ext.drew | apply Ext.alloc | (refine Ext.setCell ?_ (by simp <;> omega) _) | (refine Ext.trans ?_ (by assumption))))) (HV3.out.ext (Ext.trans hx (by with_reducible repeat (first | exact Ext.refl _ | assumption | apply Ext.drewN | apply Ext.drew | apply Ext.alloc | (refine Ext.setCell ?_ (by simp <;> omega) _) | (refine Ext.trans ?_ (by assumption)))))) EV2.out).mono ?_); rintro e w7 ⟨rfl, hb7⟩)
                  have hx8 : Ext w (w7.alloc (.cells #[.int .i64 ((j : Int) * n), .int .i64 1] 26)) := (by with_reducible repeat (first | exact Ext.refl _ | assumption | apply Ext.drewN | apply Ext.drew | apply Ext.alloc | (refine Ext.setCell ?_ (by simp <;> omega) _) | (refine Ext.trans ?_ (by assumption))))
                  have c190 : (w7.alloc (.cells #[.int .i64 ((j : Int) * n), .int .i64 1] 26)).cell? ⟨w7.heap.size, 0, none⟩ = some (.int .i64 ((j : Int) * n)) := by go_simp
                  have c191 : (w7.alloc (.cells #[.int .i64 ((j : Int) * n), .int .i64 1] 26)).cell? ⟨w7.heap.size, 1, none⟩ = some (.int .i64 1) := by go_simp
                  have l19 : w7.heap.size < (w7.alloc (.cells #[.int .i64 ((j : Int) * n), .int .i64 1] 26)).heap.size := by simp
                  generalize w7.alloc (.cells #[.int .i64 ((j : Int) * n), .int .i64 1] 26) = W8 at *
                  have wn : IntKind.i64.wrap n = n := by rw [IntKind.wrap_i64]; omega
                  have wk : IntKind.i64.wrap ((j : Int) * n) = (j : Int) * n := by
                    have := mul_bd' (c := j) (n := n) (by omega) ⟨n0, n1⟩
                    rw [IntKind.wrap_i64]; omega
                  refine Rr.wp_region ((List.range 14).map (fun i => (i, .y))) (fun _ => (.cells #[] 29, Rg.ptr)) (by kernel_rfl) (by kernel_rfl) ?_
                  simp only [List.range, List.range.loop, List.map_cons, List.map_nil]
                  (refine Rr.wr_y (by simp only [List.getElem?_toArray, List.getElem?_cons_succ, List.getElem?_cons_zero]; rfl) (by rfl) ?_
                   apply Exists.intro
                   refine ⟨fun wz hw _ => ?_, ?_⟩
                   · have hcz := hw.cells.1
                     go_simp
                     (with_reducible exact Rg.up_value)
                   simp only [Act.put, List.setIfInBounds_toArray, List.set_cons_zero, List.set_cons_succ])
                  (refine Rr.wr_y (by simp only [List.getElem?_toArray, List.getElem?_cons_succ, List.getElem?_cons_zero]; rfl) (by rfl) ?_
                   apply Exists.intro
                   refine ⟨fun wz hw _ => ?_, ?_⟩
                   · have hcz := hw.cells.1
                     go_simp
                     (with_reducible exact Rg.up_value)
                   simp only [Act.put, List.setIfInBounds_toArray, List.set_cons_zero, List.set_cons_succ])
                  (refine Rr.wr_y (by simp only [List.getElem?_toArray, List.getElem?_cons_succ, List.getElem?_cons_zero]; rfl) (by rfl) ?_
                   apply Exists.intro
                   refine ⟨fun wz hw _ => ?_, ?_⟩
                   · have hcz := hw.cells.1
                     go_simp
                     (with_reducible exact Rg.up_value)
                   simp only [Act.put, List.setIfInBounds_toArray, List.set_cons_zero, List.set_cons_succ])
                  (refine Rr.wr_y (by simp only [List.getElem?_toArray, List.getElem?_cons_succ, List.getElem?_cons_zero]; rfl) (by rfl) ?_
                   apply Exists.intro
                   refine ⟨fun wz hw _ => ?_, ?_⟩
                   · have hcz := hw.cells.1
                     go_simp
                     (with_reducible exact Rg.up_value)
                   simp only [Act.put, List.setIfInBounds_toArray, List.set_cons_zero, List.set_cons_succ])
                  (refine Rr.wr_y (by simp only [List.getElem?_toArray, List.getElem?_cons_succ, List.getElem?_cons_zero]; rfl) (by rfl) ?_
                   apply Exists.intro
                   refine ⟨fun wz hw _ => ?_, ?_⟩
                   · have hcz := hw.cells.1
                     go_simp
                     (with_reducible exact Rg.up_value)
                   simp only [Act.put, List.setIfInBounds_toArray, List.set_cons_zero, List.set_cons_succ])
                  (refine Rr.wr_y (by simp only [List.getElem?_toArray, List.getElem?_cons_succ, List.getElem?_cons_zero]; rfl) (by rfl) ?_
                   apply Exists.intro
                   refine ⟨fun wz hw _ => ?_, ?_⟩
                   · have hcz := hw.cells.1
                     go_simp
                     (with_reducible exact Rg.up_value)
                   simp only [Act.put, List.setIfInBounds_toArray, List.set_cons_zero, List.set_cons_succ])
                  (refine Rr.wr_y (by simp only [List.getElem?_toArray, List.getElem?_cons_succ, List.getElem?_cons_zero]; rfl) (by rfl) ?_
                   apply Exists.intro
                   refine ⟨fun wz hw _ => ?_, ?_⟩
                   · have hcz := hw.cells.1
                     exact up_load26 (by rfl) ((hcz _ _ l19).trans c190) ((hcz _ _ l19).trans c191)
                   simp only [Act.put, List.setIfInBounds_toArray, List.set_cons_zero, List.set_cons_succ])
                  (refine Rr.wr_y (by simp only [List.getElem?_toArray, List.getElem?_cons_succ, List.getElem?_cons_zero]; rfl) (by rfl) ?_
                   apply Exists.intro
                   refine ⟨fun wz hw _ => ?_, ?_⟩
                   · have hcz := hw.cells.1
                     go_simp
                     (with_reducible exact Rg.up_value)
                   simp only [Act.put, List.setIfInBounds_toArray, List.set_cons_zero, List.set_cons_succ])
                  (refine Rr.wr_y (by simp only [List.getElem?_toArray, List.getElem?_cons_succ, List.getElem?_cons_zero]; rfl) (by rfl) ?_
                   apply Exists.intro
                   refine ⟨fun wz hw _ => ?_, ?_⟩
                   · have hcz := hw.cells.1
                     go_simp
                     (with_reducible exact Rg.up_value)
                   simp only [Act.put, List.setIfInBounds_toArray, List.set_cons_zero, List.set_cons_succ])
                  (refine Rr.wr_y (by simp only [List.getElem?_toArray, List.getElem?_cons_succ, List.getElem?_cons_zero]; rfl) (by rfl) ?_
                   apply Exists.intro
                   refine ⟨fun wz hw _ => ?_, ?_⟩
                   · have hcz := hw.cells.1
                     go_simp
                     (with_reducible exact Rg.up_value)
                   simp only [Act.put, List.setIfInBounds_toArray, List.set_cons_zero, List.set_cons_succ])
                  (refine Rr.wr_y (by simp only [List.getElem?_toArray, List.getElem?_cons_succ, List.getElem?_cons_zero]; rfl) (by rfl) ?_
                   apply Exists.intro
                   refine ⟨fun wz hw _ => ?_, ?_⟩
                   · have hcz := hw.cells.1
                     go_simp
                     (with_reducible exact Rg.up_value)
                   simp only [Act.put, List.setIfInBounds_toArray, List.set_cons_zero, List.set_cons_succ])
                  (refine Rr.wr_y (by simp only [List.getElem?_toArray, List.getElem?_cons_succ, List.getElem?_cons_zero]; rfl) (by rfl) ?_
                   apply Exists.intro
                   refine ⟨fun wz hw _ => ?_, ?_⟩
                   · have hcz := hw.cells.1
                     go_simp
                     apply Rg.up_enter
                     (with_reducible refine (refOf_any _ _).mono ?_)
                     rintro e w3 ⟨rfl, hb3⟩
                     exact ⟨rfl, hb3⟩
                   simp only [Act.put, List.setIfInBounds_toArray, List.set_cons_zero, List.set_cons_succ])
                  (refine Rr.wr_y (by simp only [List.getElem?_toArray, List.getElem?_cons_succ, List.getElem?_cons_zero]; rfl) (by rfl) ?_
                   apply Exists.intro
                   refine ⟨fun wz hw _ => ?_, ?_⟩
                   · have hcz := hw.cells.1
                     go_simp
                     (with_reducible exact Rg.up_value)
                   simp only [Act.put, List.setIfInBounds_toArray, List.set_cons_zero, List.set_cons_succ])
                  (refine Rr.wr_y (by simp only [List.getElem?_toArray, List.getElem?_cons_succ, List.getElem?_cons_zero]; rfl) (by rfl) ?_
                   apply Exists.intro
                   refine ⟨fun wz hw _ => ?_, ?_⟩
                   · have hcz := hw.cells.1
                     go_simp
                     (with_reducible exact Rg.up_value)
                   simp only [Act.put, List.setIfInBounds_toArray, List.set_cons_zero, List.set_cons_succ])
                  refine Rr.wr_nil ?_
                  intro wy hy hh
                  simp only [List.length_cons, List.length_nil, List.drop_succ_cons, List.drop_zero, Nat.reduceAdd]
                  clear hh
                  go_wp2
                  go_ret
                  exact ⟨rfl, hx8.trans hy⟩
end Go.Proofs.Ytgkdeknfmmgbdaa
