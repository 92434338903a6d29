/-
  The reference's small numbers: Mod, Names, small, quick, Make. Conditions: the ranges of the numbers.
-/
import Derived.Test.YtgkdeknfmmgbdaaFr
namespace Go.Proofs.Ytgkdeknfmmgbdaa
set_option linter.unusedVariables false
set_option linter.unusedSimpArgs false
open Go.RowKit

/-- What Mod gives. -/
abbrev modZ (n m : Int) : Int := n % m
theorem tmod_bd (n : Int) {m : Int} (hm : 0 < m) : -m < n.tmod m ∧ n.tmod m < m := by
  have h1 := Int.tmod_lt_of_pos n hm
  have h2 := Int.tmod_lt_of_pos (-n) hm
  rw [Int.neg_tmod] at h2
  exact ⟨by omega, h1⟩
theorem modZ_eq (n m : Int) : (n.tmod m + m) % m = n % m := by
  rw [Int.add_emod_right]
  conv => rhs; rw [← Int.tmod_add_mul_tdiv n m]
  rw [Int.add_mul_emod_self_left]
theorem modZ_bd (n : Int) {m : Int} (hm : 0 < m) : 0 ≤ modZ n m ∧ modZ n m < m :=
  ⟨Int.emod_nonneg _ (by omega), Int.emod_lt_of_pos _ hm⟩

set_option maxHeartbeats 400000 in
theorem Mod_any (n m : Int) (hm : 0 < m) (hm2 : m ≤ 1000000) (h1 : -9223372036854775808 ≤ n) (h2 : n ≤ 9223372036854775807) (w : World) :
    Calls Try.prog 39 #[.int .i64 n, .int .i64 m] w fun e w' => e = .returned (.int .i64 (modZ n m)) ∧ w = w' := by
  have hm0 : ¬ m = 0 := by omega
  have b := tmod_bd n hm
  have HE := Lib.hid (modZ_eq n m)
  go_enter Try.func39, Try.ntmps39
  go_wp2
  go_ret
  exact ⟨by rw [HE.out]; rfl, rfl⟩

theorem Names_any (w : World) : Calls Try.prog 41 #[] w fun e w' => ∃ p, e = .returned (.slice (some ⟨p, 0, none⟩) 4 4) ∧ w.heap.size ≤ p ∧ w'.heap[p]? = some (.cells #[.string priceB, .string lowB, .string qualB, .string ⟨#[100, 97, 121, 115]⟩] 9) ∧ Ext w w' := by
  go_enter Try.func41, Try.ntmps41
  go_wp2
  go_ret
  exact ⟨_, rfl, Nat.le_refl _, block_new rfl, (by with_reducible repeat (first | exact Ext.refl _ | assumption | apply Ext.drewN | apply Ext.drew | apply Ext.alloc | (refine Ext.setCell ?_ (by simp <;> omega) _) | (refine Ext.trans ?_ (by assumption))))⟩

theorem small_any' (n : Int) (h : -1000000000 < n ∧ n < 1000000000) (w : World) : Calls Try.prog 67 #[.int .i64 n] w fun e w' => e = .returned (.bool true) ∧ w = w' := by
  obtain ⟨h1, h2⟩ := h
  go_enter Try.func67, Try.ntmps67
  go_wp2
  go_ret
  exact ⟨rfl, rfl⟩

/-- num / den in lowest terms, den positive. -/
def quickZ (n d : Int) : Int × Int := (n.tdiv (Int.gcd n d : Int), d.tdiv (Int.gcd n d : Int))
theorem quick_any (n d : Int) (hn : -1000000 ≤ n ∧ n ≤ 1000000) (hd : 1 ≤ d ∧ d ≤ 1000000) (w : World) : Calls Try.prog 52 #[.int .i64 n, .int .i64 d] w fun e w' => e = .returned (rv (quickZ n d)) ∧ Ext w w' := by
  obtain ⟨n1, n2⟩ := hn
  obtain ⟨d1, d2⟩ := hd
  have hG : 1 ≤ Int.gcd n d := by
    have := Int.gcd_pos_of_ne_zero_right n (show d ≠ 0 by omega); omega
  have hGd : (Int.gcd n d : Int) ≤ d := Int.le_of_dvd (by omega) (Int.gcd_dvd_right _ _)
  have hM : max n (-n) = (n.natAbs : Int) := by rw [Int.max_def]; split <;> omega
  have HG := Lib.hid (show Nat.gcd n.natAbs d.natAbs = Int.gcd n d from rfl)
  have HQ := Lib.hid (show quickZ n d = (n.tdiv (Int.gcd n d : Int), d.tdiv (Int.gcd n d : Int)) from rfl)
  generalize Int.gcd n d = G at *
  have HM := Lib.hid hM
  clear hM
  go_enter Try.func52, Try.ntmps52
  go_wp2
  rw [HM.out]
  go_loop [5, 6] (fun x y => ∃ p q : Nat, p ≤ 1000000 ∧ q ≤ 1000000 ∧ x = .int .i64 p ∧ y = .int .i64 q ∧ Hid (Nat.gcd p q = G)) (fun _ y => (intOf y).toNat)
  case atStart => exact ⟨n.natAbs, d.natAbs, by omega, by omega, rfl, by rw [show d = (d.natAbs : Int) by omega]; rfl, HG⟩
  case round =>
    obtain ⟨p, q, hp, hq, rfl, rfl, hg⟩ := hrel
    rcases Nat.eq_zero_or_pos q with h0 | hlt
    · subst h0
      have hpG : p = G := by have := hg.out; simpa using this
      subst hpG
      have hne : ¬ p = 0 := by omega
      have e1 : IntKind.i64.wrap (n.tdiv (p : Int)) = n.tdiv (p : Int) := by
        have h3 := Int.natAbs_tdiv_le_natAbs n (p : Int)
        rw [IntKind.wrap_i64]; omega
      have e2 : IntKind.i64.wrap (d.tdiv (p : Int)) = d.tdiv (p : Int) := by
        have h3 := Int.natAbs_tdiv_le_natAbs d (p : Int)
        rw [IntKind.wrap_i64]; omega
      have E1 := Lib.hid e1; have E2 := Lib.hid e2
      have E3 := Lib.hid (show d / (p : Int) = d.tdiv (p : Int) from (Int.tdiv_eq_ediv_of_nonneg (by omega)).symm)
      clear e1 e2
      go_wp2_with (fail)
      refine Rr.wp_region [(0, .y), (1, .y), (2, .y), (3, .y), (4, .y), (5, .y), (6, .y)] (fun _ => (.cells #[] 29, Rg.ptr)) (by kernel_rfl) (by kernel_rfl) ?_
      (refine Rr.wr_y (by simp only [List.getElem?_toArray, List.getElem?_cons_succ, List.getElem?_cons_zero]; rfl) (by rfl) ?_
       apply Exists.intro
       refine ⟨fun wz hw _ => ?_, ?_⟩
       · have hcz := hw.cells.1
         go_simp
         (with_reducible exact Rg.up_value)
       simp only [Act.put, List.setIfInBounds_toArray, List.set_cons_zero, List.set_cons_succ])
      (refine Rr.wr_y (by simp only [List.getElem?_toArray, List.getElem?_cons_succ, List.getElem?_cons_zero]; rfl) (by rfl) ?_
       apply Exists.intro
       refine ⟨fun wz hw _ => ?_, ?_⟩
       · have hcz := hw.cells.1
         go_simp
         (with_reducible exact Rg.up_value)
       simp only [Act.put, List.setIfInBounds_toArray, List.set_cons_zero, List.set_cons_succ])
      (refine Rr.wr_y (by simp only [List.getElem?_toArray, List.getElem?_cons_succ, List.getElem?_cons_zero]; rfl) (by rfl) ?_
       apply Exists.intro
       refine ⟨fun wz hw _ => ?_, ?_⟩
       · have hcz := hw.cells.1
         go_simp
         (with_reducible exact Rg.up_value)
       simp only [Act.put, List.setIfInBounds_toArray, List.set_cons_zero, List.set_cons_succ])
      (refine Rr.wr_y (by simp only [List.getElem?_toArray, List.getElem?_cons_succ, List.getElem?_cons_zero]; rfl) (by rfl) ?_
       apply Exists.intro
       refine ⟨fun wz hw _ => ?_, ?_⟩
       · have hcz := hw.cells.1
         go_simp
         (with_reducible exact Rg.up_value)
       simp only [Act.put, List.setIfInBounds_toArray, List.set_cons_zero, List.set_cons_succ])
      (refine Rr.wr_y (by simp only [List.getElem?_toArray, List.getElem?_cons_succ, List.getElem?_cons_zero]; rfl) (by rfl) ?_
       apply Exists.intro
       refine ⟨fun wz hw _ => ?_, ?_⟩
       · have hcz := hw.cells.1
         go_simp
         (with_reducible exact Rg.up_value)
       simp only [Act.put, List.setIfInBounds_toArray, List.set_cons_zero, List.set_cons_succ])
      (refine Rr.wr_y (by simp only [List.getElem?_toArray, List.getElem?_cons_succ, List.getElem?_cons_zero]; rfl) (by rfl) ?_
       apply Exists.intro
       refine ⟨fun wz hw _ => ?_, ?_⟩
       · have hcz := hw.cells.1
         go_simp
         (with_reducible exact Rg.up_value)
       simp only [Act.put, List.setIfInBounds_toArray, List.set_cons_zero, List.set_cons_succ])
      (refine Rr.wr_y (by simp only [List.getElem?_toArray, List.getElem?_cons_succ, List.getElem?_cons_zero]; rfl) (by rfl) ?_
       apply Exists.intro
       refine ⟨fun wz hw _ => ?_, ?_⟩
       · have hcz := hw.cells.1
         go_simp
         (with_reducible exact Rg.up_value)
       simp only [Act.put, List.setIfInBounds_toArray, List.set_cons_zero, List.set_cons_succ])
      refine Rr.wr_nil ?_
      intro wy hy hh
      simp only [List.length_cons, List.length_nil, List.drop_succ_cons, List.drop_zero, Nat.reduceAdd]
      obtain ⟨hcy, hfy⟩ := hy.cells
      clear hh
      go_wp2
      rw [E3.out]
      exact bodyPost_ret (v := rv (n.tdiv (p : Int), d.tdiv (p : Int))) (by simp [results, Try.results52, go_sem, hcy]) rfl ⟨by rw [HQ.out], (by with_reducible repeat (first | exact Ext.refl _ | assumption | apply Ext.drewN | apply Ext.drew | apply Ext.alloc | (refine Ext.setCell ?_ (by simp <;> omega) _) | (refine Ext.trans ?_ (by assumption))))⟩
    · have hne : ¬ q = 0 := by omega
      have hl := Nat.mod_lt p hlt
      go_wp2
      go_round
      case rel => exact ⟨q, p % q, hq, by omega, rfl, by simp, Lib.hid (by rw [← hg.out, gcd_step p q hlt])⟩
      case measure => simp [intOf]; omega

theorem Make_any (n d : Int) (hn : -1000000 ≤ n ∧ n ≤ 1000000) (hd : 1 ≤ d ∧ d ≤ 1000000) (w : World) : Calls Try.prog 40 #[.int .i64 n, .int .i64 d] w fun e w' => e = .returned (.tuple #[rv (quickZ n d), .bool true]) ∧ Ext w w' := by
  have hN : -1000000000 < n ∧ n < 1000000000 := ⟨by omega, by omega⟩
  have hD : -1000000000 < d ∧ d < 1000000000 := ⟨by omega, by omega⟩
  have hd0 : ¬ d = 0 := by omega
  have HQ := Lib.hid (quick_any n d hn hd)
  generalize quickZ n d = q at *
  obtain ⟨q1, q2⟩ := q
  go_enter Try.func40, Try.ntmps40
  go_wp2_with (first
    | (go_at_call 67; (with_reducible refine (small_any' _ (by assumption) _).mono ?_); rintro e w1 ⟨rfl, rfl⟩)
    | (go_at_call 52; (with_reducible refine (HQ.out _).mono ?_); rintro e w1 ⟨rfl, hb⟩; obtain ⟨hc, hf⟩ := hb.cells; have hz := hb.size; simp at hz; have z1 : w.heap.size < w1.heap.size := (by omega)))
  exact bodyPost_ret (v := rbv ((q1, q2), true)) (by simp [results, Try.results40, go_sem, hc]) rfl ⟨rfl, (by with_reducible repeat (first | exact Ext.refl _ | assumption | apply Ext.drewN | apply Ext.drew | apply Ext.alloc | (refine Ext.setCell ?_ (by simp <;> omega) _) | (refine Ext.trans ?_ (by assumption))))⟩
end Go.Proofs.Ytgkdeknfmmgbdaa
