/-
  Lemmas of this claim (JtO). Nothing is asked.
-/
import Derived.Test.YteomcpplajeidaaGreatJtN
import Derived.Outline
namespace Go.Proofs.YteomcpplajeidaaGreat
set_option linter.unusedVariables false
set_option linter.unusedSimpArgs false
set_option maxRecDepth 100000
open Go.RowKit
theorem small_any' (n : Int) (h : -1000000000 < n ∧ n < 1000000000) (w : World) : Calls Tryz.prog 105 #[.int .i64 n] w fun e w' => e = .returned (.bool true) ∧ w = w' := by
  obtain ⟨h1, h2⟩ := h
  go_enter Tryz.func105, Tryz.ntmps105
  go_wp2
  go_ret
  exact ⟨rfl, rfl⟩
def quickZ (n d : Int) : Int × Int := (n.tdiv (Int.gcd n d : Int), d.tdiv (Int.gcd n d : Int))
theorem quick_any (n d : Int) (hn : -1000000 ≤ n ∧ n ≤ 1000000) (hd : 1 ≤ d ∧ d ≤ 1000000) (w : World) : Calls Tryz.prog 106 #[.int .i64 n, .int .i64 d] w fun e w' => e = .returned (rv (quickZ n d)) ∧ Ext w w' := by
  obtain ⟨n1, n2⟩ := hn
  obtain ⟨d1, d2⟩ := hd
  have hG : 1 ≤ Int.gcd n d := by
    have := Int.gcd_pos_of_ne_zero_right n (show d ≠ 0 by omega); omega
  have hGd : (Int.gcd n d : Int) ≤ d := Int.le_of_dvd (by omega) (Int.gcd_dvd_right _ _)
  have hM : max n (-n) = (n.natAbs : Int) := by rw [Int.max_def]; split <;> omega
  have HG := Lib.hid (show Nat.gcd n.natAbs d.natAbs = Int.gcd n d from rfl)
  have HQ := Lib.hid (show quickZ n d = (n.tdiv (Int.gcd n d : Int), d.tdiv (Int.gcd n d : Int)) from rfl)
  generalize Int.gcd n d = G at *
  have HM := Lib.hid hM
  clear hM
  go_enter Tryz.func106, Tryz.ntmps106
  go_wp2
  rw [HM.out]
  go_loop [5, 6] (fun x y => ∃ p q : Nat, p ≤ 1000000 ∧ q ≤ 1000000 ∧ x = .int .i64 p ∧ y = .int .i64 q ∧ Hid (Nat.gcd p q = G)) (fun _ y => (intOf y).toNat)
  case atStart => exact ⟨n.natAbs, d.natAbs, by omega, by omega, rfl, by rw [show d = (d.natAbs : Int) by omega]; rfl, HG⟩
  case round =>
    obtain ⟨p, q, hp, hq, rfl, rfl, hg⟩ := hrel
    rcases Nat.eq_zero_or_pos q with h0 | hlt
    · subst h0
      have hpG : p = G := by have := hg.out; simpa using this
      subst hpG
      have hne : ¬ p = 0 := by omega
      have e1 : IntKind.i64.wrap (n.tdiv (p : Int)) = n.tdiv (p : Int) := by
        have h3 := Int.natAbs_tdiv_le_natAbs n (p : Int)
        rw [IntKind.wrap_i64]; omega
      have e2 : IntKind.i64.wrap (d.tdiv (p : Int)) = d.tdiv (p : Int) := by
        have h3 := Int.natAbs_tdiv_le_natAbs d (p : Int)
        rw [IntKind.wrap_i64]; omega
      have E1 := Lib.hid e1; have E2 := Lib.hid e2
      have E3 := Lib.hid (show d / (p : Int) = d.tdiv (p : Int) from (Int.tdiv_eq_ediv_of_nonneg (by omega)).symm)
      clear e1 e2
      go_wp2_with (fail)
      refine Rr.wp_region [(0, .y), (1, .y), (2, .y), (3, .y), (4, .y), (5, .y), (6, .y)] (fun _ => (.cells #[] 33, Rg.ptr)) (by kernel_rfl) (by kernel_rfl) ?_
      (refine Rr.wr_y (by simp only [List.getElem?_toArray, List.getElem?_cons_succ, List.getElem?_cons_zero]; rfl) (by rfl) ?_
       apply Exists.intro
       refine ⟨fun wz hw _ => ?_, ?_⟩
       · have hcz := hw.cells.1
         go_simp
         (with_reducible exact Rg.up_value)
       simp only [Act.put, List.setIfInBounds_toArray, List.set_cons_zero, List.set_cons_succ])
      (refine Rr.wr_y (by simp only [List.getElem?_toArray, List.getElem?_cons_succ, List.getElem?_cons_zero]; rfl) (by rfl) ?_
       apply Exists.intro
       refine ⟨fun wz hw _ => ?_, ?_⟩
       · have hcz := hw.cells.1
         go_simp
         (with_reducible exact Rg.up_value)
       simp only [Act.put, List.setIfInBounds_toArray, List.set_cons_zero, List.set_cons_succ])
      (refine Rr.wr_y (by simp only [List.getElem?_toArray, List.getElem?_cons_succ, List.getElem?_cons_zero]; rfl) (by rfl) ?_
       apply Exists.intro
       refine ⟨fun wz hw _ => ?_, ?_⟩
       · have hcz := hw.cells.1
         go_simp
         (with_reducible exact Rg.up_value)
       simp only [Act.put, List.setIfInBounds_toArray, List.set_cons_zero, List.set_cons_succ])
      (refine Rr.wr_y (by simp only [List.getElem?_toArray, List.getElem?_cons_succ, List.getElem?_cons_zero]; rfl) (by rfl) ?_
       apply Exists.intro
       refine ⟨fun wz hw _ => ?_, ?_⟩
       · have hcz := hw.cells.1
         go_simp
         (with_reducible exact Rg.up_value)
       simp only [Act.put, List.setIfInBounds_toArray, List.set_cons_zero, List.set_cons_succ])
      (refine Rr.wr_y (by simp only [List.getElem?_toArray, List.getElem?_cons_succ, List.getElem?_cons_zero]; rfl) (by rfl) ?_
       apply Exists.intro
       refine ⟨fun wz hw _ => ?_, ?_⟩
       · have hcz := hw.cells.1
         go_simp
         (with_reducible exact Rg.up_value)
       simp only [Act.put, List.setIfInBounds_toArray, List.set_cons_zero, List.set_cons_succ])
      (refine Rr.wr_y (by simp only [List.getElem?_toArray, List.getElem?_cons_succ, List.getElem?_cons_zero]; rfl) (by rfl) ?_
       apply Exists.intro
       refine ⟨fun wz hw _ => ?_, ?_⟩
       · have hcz := hw.cells.1
         go_simp
         (with_reducible exact Rg.up_value)
       simp only [Act.put, List.setIfInBounds_toArray, List.set_cons_zero, List.set_cons_succ])
      (refine Rr.wr_y (by simp only [List.getElem?_toArray, List.getElem?_cons_succ, List.getElem?_cons_zero]; rfl) (by rfl) ?_
       apply Exists.intro
       refine ⟨fun wz hw _ => ?_, ?_⟩
       · have hcz := hw.cells.1
         go_simp
         (with_reducible exact Rg.up_value)
       simp only [Act.put, List.setIfInBounds_toArray, List.set_cons_zero, List.set_cons_succ])
      refine Rr.wr_nil ?_
      intro wy hy hh
      simp only [List.length_cons, List.length_nil, List.drop_succ_cons, List.drop_zero, Nat.reduceAdd]
      obtain ⟨hcy, hfy⟩ := hy.cells
      clear hh
      go_wp2
      rw [E3.out]
      exact bodyPost_ret (v := rv (n.tdiv (p : Int), d.tdiv (p : Int))) (by simp [results, Tryz.results106, go_sem, hcy]) rfl ⟨by rw [HQ.out], (by with_reducible repeat (first | exact Ext.refl _ | assumption | apply Ext.drewN | apply Ext.drew | apply Ext.alloc | (refine Ext.setCell ?_ (by simp <;> omega) _) | (refine Ext.trans ?_ (by assumption))))⟩
    · have hne : ¬ q = 0 := by omega
      have hl := Nat.mod_lt p hlt
      go_wp2
      go_round
      case rel => exact ⟨q, p % q, hq, by omega, rfl, by simp, Lib.hid (by rw [← hg.out, gcd_step p q hlt])⟩
      case measure => simp [intOf]; omega
theorem Make_any (n d : Int) (hn : -1000000 ≤ n ∧ n ≤ 1000000) (hd : 1 ≤ d ∧ d ≤ 1000000) (w : World) : Calls Tryz.prog 60 #[.int .i64 n, .int .i64 d] w fun e w' => e = .returned (.tuple #[rv (quickZ n d), .bool true]) ∧ Ext w w' := by
  have hN : -1000000000 < n ∧ n < 1000000000 := ⟨by omega, by omega⟩
  have hD : -1000000000 < d ∧ d < 1000000000 := ⟨by omega, by omega⟩
  have hd0 : ¬ d = 0 := by omega
  have HQ := Lib.hid (quick_any n d hn hd)
  generalize quickZ n d = q at *
  obtain ⟨q1, q2⟩ := q
  go_enter Tryz.func60, Tryz.ntmps60
  go_wp2_with (first
    | (go_at_call 105; (with_reducible refine (small_any' _ (by assumption) _).mono ?_); rintro e w1 ⟨rfl, rfl⟩)
    | (go_at_call 106; (with_reducible refine (HQ.out _).mono ?_); rintro e w1 ⟨rfl, hb⟩; obtain ⟨hc, hf⟩ := hb.cells; have hz := hb.size; simp at hz; have z1 : w.heap.size < w1.heap.size := (by omega)))
  exact bodyPost_ret (v := rbv ((q1, q2), true)) (by simp [results, Tryz.results60, go_sem, hc]) rfl ⟨rfl, (by with_reducible repeat (first | exact Ext.refl _ | assumption | apply Ext.drewN | apply Ext.drew | apply Ext.alloc | (refine Ext.setCell ?_ (by simp <;> omega) _) | (refine Ext.trans ?_ (by assumption))))⟩
end Go.Proofs.YteomcpplajeidaaGreat
namespace Go.Proofs.YteomcpplajeidaaGreat
set_option linter.unusedVariables false
set_option linter.unusedSimpArgs false
set_option maxRecDepth 100000
open Go.RowKit
def iof : Value → Int
  | .int _ n => n
  | _ => 0
def letB (c : Int) : Bool := (decide (97 ≤ c) && decide (c ≤ 122)) || (decide (65 ≤ c) && decide (c ≤ 90))
def digB (c : Int) : Bool := decide (48 ≤ c) && decide (c ≤ 57)
def folB (c : Int) : Bool := letB c || digB c || decide (c = 95)
theorem letter_any (c : Int) (w : World) : Calls Tryz.prog 146 #[.int .u8 c] w fun e w' => e = .returned (.bool (letB c)) ∧ w = w' := by
  unfold letB
  by_cases h1 : (97 : Int) ≤ c
  · by_cases h2 : c ≤ 122
    · go_enter Tryz.func146, Tryz.ntmps146
      go_wp2
      go_ret
      exact ⟨by first | (simp; done) | (simp; omega) | (simp; intros; omega) | (simp; constructor <;> intros <;> omega), rfl⟩
    · have h3 : (65 : Int) ≤ c := by omega
      have h4 : ¬ c ≤ 90 := by omega
      go_enter Tryz.func146, Tryz.ntmps146
      go_wp2
      go_ret
      exact ⟨by first | (simp; done) | (simp; omega) | (simp; intros; omega) | (simp; constructor <;> intros <;> omega), rfl⟩
  · by_cases h3 : (65 : Int) ≤ c
    · by_cases h4 : c ≤ 90
      · go_enter Tryz.func146, Tryz.ntmps146
        go_wp2
        go_ret
        exact ⟨by first | (simp; done) | (simp; omega) | (simp; intros; omega) | (simp; constructor <;> intros <;> omega), rfl⟩
      · go_enter Tryz.func146, Tryz.ntmps146
        go_wp2
        go_ret
        exact ⟨by first | (simp; done) | (simp; omega) | (simp; intros; omega) | (simp; constructor <;> intros <;> omega), rfl⟩
    · go_enter Tryz.func146, Tryz.ntmps146
      go_wp2
      go_ret
      exact ⟨by first | (simp; done) | (simp; omega) | (simp; intros; omega) | (simp; constructor <;> intros <;> omega), rfl⟩
theorem digit_any (c : Int) (w : World) : Calls Tryz.prog 185 #[.int .u8 c] w fun e w' => e = .returned (.bool (digB c)) ∧ w = w' := by
  unfold digB
  by_cases h1 : (48 : Int) ≤ c
  · by_cases h2 : c ≤ 57
    · go_enter Tryz.func185, Tryz.ntmps185
      go_wp2
      go_ret
      exact ⟨by first | (simp; done) | (simp; omega) | (simp; intros; omega) | (simp; constructor <;> intros <;> omega), rfl⟩
    · go_enter Tryz.func185, Tryz.ntmps185
      go_wp2
      go_ret
      exact ⟨by first | (simp; done) | (simp; omega) | (simp; intros; omega) | (simp; constructor <;> intros <;> omega), rfl⟩
  · go_enter Tryz.func185, Tryz.ntmps185
    go_wp2
    go_ret
    exact ⟨by first | (simp; done) | (simp; omega) | (simp; intros; omega) | (simp; constructor <;> intros <;> omega), rfl⟩
theorem follows_any (c : Int) (w : World) : Calls Tryz.prog 145 #[.int .u8 c] w fun e w' => e = .returned (.bool (folB c)) ∧ w = w' := by
  have H1 := Lib.hid (letter_any c w); have H2 := Lib.hid (digit_any c w)
  unfold folB
  generalize letB c = a at *
  generalize digB c = b at *
  have hb : (c == 95) = decide (c = 95) := by by_cases h : c = 95 <;> simp [h]
  generalize decide (c = 95) = d at *
  cases a <;> cases b
  all_goals
    go_enter Tryz.func145, Tryz.ntmps145
    go_wp2_with (first
      | (go_at_call 146; (with_reducible refine H1.out.mono ?_); rintro e w1 ⟨rfl, rfl⟩)
      | (go_at_call 185; (with_reducible refine H2.out.mono ?_); rintro e w1 ⟨rfl, rfl⟩))
    go_ret
    exact ⟨by simp, rfl⟩
def byZ (s : ByteArray) (k : Nat) : Int := if h : k < s.size then (s[k].toNat : Int) else 0
theorem byZ_at {s : ByteArray} {k : Nat} (h : k < s.size) : byZ s k = (s[k].toNat : Int) := dif_pos h
def allU (p : Int → Bool) (s : ByteArray) (n : Nat) : Bool := (List.range n).all fun k => p (byZ s k)
theorem allU_succ (p : Int → Bool) (s : ByteArray) (n : Nat) : allU p s (n + 1) = (allU p s n && p (byZ s n)) := by
  unfold allU
  rw [List.range_succ, List.all_append]
  simp
theorem allU_no {p : Int → Bool} {s : ByteArray} {n k : Nat} (hk : k < n) (h : p (byZ s k) = false) : allU p s n = false := by
  unfold allU
  rw [List.all_eq_false]
  exact ⟨k, List.mem_range.2 hk, by rw [h]; decide⟩
def numS (s : ByteArray) : Bool := allU digB s s.size && (decide (0 < s.size) && (!decide (byZ s 0 = 48) || decide (s.size = 1)))
set_option maxHeartbeats 4000000 in
theorem isNumber_any (s : ByteArray) (hs : s.size ≤ 1000000) (w : World) : Calls Tryz.prog 203 #[.string s] w fun e w' => e = .returned (.bool (numS s)) ∧ w = w' := by
  have HN : Hid (numS s = (allU digB s s.size && (decide (0 < s.size) && (!decide (byZ s 0 = 48) || decide (s.size = 1))))) := Lib.hid rfl
  go_enter Tryz.func203, Tryz.ntmps203
  go_upto_region 2 with (fail)
  go_loopw [3] (fun kv wr => ∃ k : Nat, kv = .int .i64 k ∧ k ≤ s.size ∧ Hid (allU digB s k = true) ∧ wr = w) (fun kv _ => s.size - (iof kv).toNat)
  case atStart => exact ⟨0, rfl, Nat.zero_le _, Lib.hid rfl, rfl⟩
  case round =>
    obtain ⟨k, rfl, hk, HD, rfl⟩ := hrel
    by_cases hkl : k < s.size
    · have hcall := digit_any (s[k].toNat : Nat) wr
      have hby := byZ_at hkl
      rw [← hby] at hcall
      have HBY := Lib.hid hby.symm
      clear hby
      cases hd : digB (byZ s k) with
      | false =>
        rw [hd, HBY.out.symm] at hcall
        have HC := Lib.hid hcall
        have HF : Hid (numS s = false) := Lib.hid (by rw [HN.out, allU_no hkl hd]; rfl)
        clear hd hcall
        go_wp2_with (first | (go_at_call 185; (with_reducible refine HC.out.mono ?_); rintro e w1 ⟨rfl, rfl⟩))
        go_ret
        exact ⟨by rw [HF.out]; rfl, rfl⟩
      | true =>
        rw [hd, HBY.out.symm] at hcall
        have HC := Lib.hid hcall
        have HT : Hid (allU digB s (k + 1) = true) := Lib.hid (by rw [allU_succ, HD.out, hd]; rfl)
        clear hd hcall
        go_wp2_with (first | (go_at_call 185; (with_reducible refine HC.out.mono ?_); rintro e w1 ⟨rfl, rfl⟩))
        exact ⟨⟨k + 1, by simp, by omega, HT, trivial⟩, by simp [iof]; omega⟩
    · obtain rfl : k = s.size := by omega
      by_cases h0 : 0 < s.size
      · have h0i : (0 : Int) < (s.size : Int) := by omega
        have HB0 := Lib.hid (byZ_at h0)
        by_cases h1 : ((s[0].toNat : Nat) : Int) = 48
        · by_cases h2 : s.size = 1
          · have h2i : (s.size : Int) = 1 := by omega
            have HR : Hid (numS s = true) := Lib.hid (by rw [HN.out, HD.out, HB0.out, h1, decide_eq_true h0, decide_eq_true h2]; rfl)
            go_wp2_with (fail)
            go_ret
            exact ⟨by rw [HR.out]; simp [h1, h2i], rfl⟩
          · have h2i : ¬ (s.size : Int) = 1 := by omega
            have HR : Hid (numS s = false) := Lib.hid (by rw [HN.out, HD.out, HB0.out, h1, decide_eq_true h0, decide_eq_false h2]; rfl)
            go_wp2_with (fail)
            go_ret
            exact ⟨by rw [HR.out]; simp [h1, h2i], rfl⟩
        · have HR : Hid (numS s = true) := Lib.hid (by rw [HN.out, HD.out, HB0.out, decide_eq_true h0, decide_eq_false h1]; rfl)
          go_wp2_with (fail)
          go_ret
          exact ⟨by rw [HR.out]; simp [h1], rfl⟩
      · have h0i : ¬ (0 : Int) < (s.size : Int) := by omega
        have HR : Hid (numS s = false) := Lib.hid (by rw [HN.out, HD.out, decide_eq_false h0]; rfl)
        go_wp2_with (fail)
        go_ret
        exact ⟨by rw [HR.out]; rfl, rfl⟩
def valU (s : ByteArray) : Nat → Int
  | 0 => 0
  | k + 1 => min (10 * valU s k + (byZ s k - 48)) 1000000001
theorem digB_bd {c : Int} (h : digB c = true) : 48 ≤ c ∧ c ≤ 57 := by
  unfold digB at h
  simpa using h
theorem allU_at {p : Int → Bool} {s : ByteArray} {n k : Nat} (h : allU p s n = true) (hk : k < n) : p (byZ s k) = true := by
  unfold allU at h
  exact List.all_eq_true.1 h k (List.mem_range.2 hk)
theorem valU_bd {s : ByteArray} : ∀ k, allU digB s k = true → 0 ≤ valU s k ∧ valU s k ≤ 1000000001
  | 0, _ => by unfold valU; omega
  | k + 1, h => by
    rw [allU_succ, Bool.and_eq_true] at h
    have h1 := valU_bd k h.1
    have h2 := digB_bd h.2
    unfold valU
    omega
theorem wrap_u8 {x : Int} (h0 : 0 ≤ x) (h1 : x ≤ 255) : IntKind.u8.wrap x = x := by
  simp [IntKind.wrap, IntKind.signed, IntKind.bits]
  omega
set_option maxHeartbeats 4000000 in
theorem digits_any (s : ByteArray) (hs : s.size ≤ 1000000) (hd : allU digB s s.size = true) (w : World) : Calls Tryz.prog 204 #[.string s] w fun e w' => e = .returned (.int .i64 (valU s s.size)) ∧ w = w' := by
  have HD := Lib.hid (fun k (hk : k < s.size) => digB_bd (allU_at hd hk))
  have HV := Lib.hid (fun k (hk : k ≤ s.size) => valU_bd (s := s) k (List.all_eq_true.2 fun x hx => allU_at hd (by have := List.mem_range.1 hx; omega)))
  clear hd
  go_enter Tryz.func204, Tryz.ntmps204
  go_upto_region 3 with (fail)
  go_loopw [3, 4] (fun vv kv wr => ∃ k : Nat, kv = .int .i64 k ∧ k ≤ s.size ∧ vv = .int .i64 (valU s k) ∧ wr = w) (fun _ kv _ => s.size - (iof kv).toNat)
  case atStart => exact ⟨0, rfl, Nat.zero_le _, rfl, rfl⟩
  case round =>
    obtain ⟨k, rfl, hk, rfl, rfl⟩ := hrel
    by_cases hkl : k < s.size
    · obtain ⟨b1, b2⟩ := HD.out k hkl
      obtain ⟨v1, v2⟩ := HV.out k hk
      have HS : Hid (valU s (k + 1) = min (10 * valU s k + (byZ s k - 48)) 1000000001) := Lib.hid rfl
      rw [byZ_at hkl] at b1 b2 HS
      have c1 : IntKind.u8.wrap ((s[k].toNat : Int) - 48) = (s[k].toNat : Int) - 48 := wrap_u8 (by omega) (by omega)
      have c2 : IntKind.i64.wrap ((s[k].toNat : Int) - 48) = (s[k].toNat : Int) - 48 := by rw [IntKind.wrap_i64]; omega
      have c3 : IntKind.i64.wrap (10 * valU s k) = 10 * valU s k := by rw [IntKind.wrap_i64]; omega
      have c4 : IntKind.i64.wrap (10 * valU s k + ((s[k].toNat : Int) - 48)) = 10 * valU s k + ((s[k].toNat : Int) - 48) := by rw [IntKind.wrap_i64]; omega
      generalize valU s k = v at *
      go_wp2_with (fail)
      exact ⟨⟨k + 1, by simp, by omega, by rw [HS.out]; try (first | rfl | (simp; done) | (simp; omega)), trivial⟩, by simp [iof]; omega⟩
    · obtain rfl : k = s.size := by omega
      go_wp2_with (fail)
      go_ret
      exact ⟨rfl, rfl⟩
def namS (s : ByteArray) : Bool := decide (1 ≤ s.size) && decide (s.size ≤ 30) && (allU folB s s.size && letB (byZ s 0))
set_option maxHeartbeats 4000000 in
theorem IsName_any (s : ByteArray) (hs : s.size ≤ 1000000) (w : World) : Calls Tryz.prog 93 #[.string s] w fun e w' => e = .returned (.bool (namS s)) ∧ w = w' := by
  have HN : Hid (namS s = (decide (1 ≤ s.size) && decide (s.size ≤ 30) && (allU folB s s.size && letB (byZ s 0)))) := Lib.hid rfl
  by_cases h1 : s.size < 1
  · have h1i : (s.size : Int) < 1 := by omega
    have HR : Hid (namS s = false) := Lib.hid (by rw [HN.out, decide_eq_false (show ¬ 1 ≤ s.size by omega)]; rfl)
    go_enter Tryz.func93, Tryz.ntmps93
    go_wp2_with (fail)
    go_ret
    exact ⟨by rw [HR.out]; rfl, rfl⟩
  · have h1i : ¬ (s.size : Int) < 1 := by omega
    by_cases h2 : 30 < s.size
    · have h2i : (30 : Int) < (s.size : Int) := by omega
      have HR : Hid (namS s = false) := Lib.hid (by rw [HN.out, decide_eq_false (show ¬ s.size ≤ 30 by omega), Bool.and_false]; rfl)
      go_enter Tryz.func93, Tryz.ntmps93
      go_wp2_with (fail)
      go_ret
      exact ⟨by rw [HR.out]; rfl, rfl⟩
    · have h2i : ¬ (30 : Int) < (s.size : Int) := by omega
      rw [decide_eq_true (show 1 ≤ s.size by omega), decide_eq_true (show s.size ≤ 30 by omega), Bool.true_and, Bool.true_and] at HN
      go_enter Tryz.func93, Tryz.ntmps93
      go_upto_region 4 with (fail)
      go_loopw [3] (fun kv wr => ∃ k : Nat, kv = .int .i64 k ∧ k ≤ s.size ∧ Hid (allU folB s k = true ∧ (0 < k → letB (byZ s 0) = true)) ∧ wr = w) (fun kv _ => s.size - (iof kv).toNat)
      case atStart => exact ⟨0, rfl, Nat.zero_le _, Lib.hid ⟨rfl, fun h => absurd h (Nat.lt_irrefl _)⟩, rfl⟩
      case round =>
        obtain ⟨k, rfl, hk, HD, rfl⟩ := hrel
        by_cases hkl : k < s.size
        · have hf := follows_any (s[k].toNat : Nat) wr
          have hl := letter_any (s[k].toNat : Nat) wr
          have hby := byZ_at hkl
          have HF := Lib.hid hf; have HL := Lib.hid hl
          rw [← hby] at hf hl
          have HBF : Hid (folB (s[k].toNat : Nat) = folB (byZ s k)) := Lib.hid (by rw [hby])
          have HBL : Hid (letB (s[k].toNat : Nat) = letB (byZ s k)) := Lib.hid (by rw [hby])
          clear hf hl hby
          rw [HBF.out] at HF
          rw [HBL.out] at HL
          cases hfd : folB (byZ s k) with
          | false =>
            have HR : Hid (namS s = false) := Lib.hid (by rw [HN.out, allU_no hkl hfd]; rfl)
            rw [hfd] at HF
            clear hfd
            go_wp2_with (first
              | (go_at_call 145; (with_reducible refine HF.out.mono ?_); rintro e w1 ⟨rfl, rfl⟩)
              | (go_at_call 146; (with_reducible refine HL.out.mono ?_); rintro e w1 ⟨rfl, rfl⟩))
            go_ret
            exact ⟨by rw [HR.out]; rfl, rfl⟩
          | true =>
            have HT : Hid (allU folB s (k + 1) = true) := Lib.hid (by rw [allU_succ, HD.out.1, hfd]; rfl)
            rw [hfd] at HF
            clear hfd
            by_cases hk0 : k = 0
            · subst hk0
              cases hld : letB (byZ s 0) with
              | false =>
                have HR : Hid (namS s = false) := Lib.hid (by rw [HN.out, hld, Bool.and_false])
                rw [hld] at HL
                clear hld
                go_wp2_with (first
                  | (go_at_call 145; (with_reducible refine HF.out.mono ?_); rintro e w1 ⟨rfl, rfl⟩)
                  | (go_at_call 146; (with_reducible refine HL.out.mono ?_); rintro e w1 ⟨rfl, rfl⟩))
                go_ret
                exact ⟨by rw [HR.out]; rfl, rfl⟩
              | true =>
                have HLD : Hid (letB (byZ s 0) = true) := Lib.hid hld
                rw [hld] at HL
                clear hld
                go_wp2_with (first
                  | (go_at_call 145; (with_reducible refine HF.out.mono ?_); rintro e w1 ⟨rfl, rfl⟩)
                  | (go_at_call 146; (with_reducible refine HL.out.mono ?_); rintro e w1 ⟨rfl, rfl⟩))
                exact ⟨⟨1, by simp, by omega, Lib.hid ⟨HT.out, fun _ => by first | trivial | exact HLD.out⟩, trivial⟩, by simp [iof]; omega⟩
            · have hki : ¬ (k : Int) = 0 := by omega
              have HP : Hid (0 < k) := Lib.hid (by omega)
              clear hk0
              generalize letB (byZ s k) = lb at *
              go_wp2_with (first
                | (go_at_call 145; (with_reducible refine HF.out.mono ?_); rintro e w1 ⟨rfl, rfl⟩)
                | (go_at_call 146; (with_reducible refine HL.out.mono ?_); rintro e w1 ⟨rfl, rfl⟩))
              exact ⟨⟨k + 1, by simp, by omega, Lib.hid ⟨HT.out, fun _ => HD.out.2 HP.out⟩, trivial⟩, by simp [iof]; omega⟩
        · obtain rfl : k = s.size := by omega
          have HR : Hid (namS s = true) := Lib.hid (by rw [HN.out, HD.out.1, HD.out.2 (by omega)]; rfl)
          go_wp2_with (fail)
          go_ret
          exact ⟨by rw [HR.out]; rfl, rfl⟩
end Go.Proofs.YteomcpplajeidaaGreat
namespace Go.Proofs.YteomcpplajeidaaGreat
set_option linter.unusedVariables false
set_option linter.unusedSimpArgs false
set_option maxRecDepth 100000
open Go.RowKit
open Go.RowKit
open Go.RowKit
def cellsP (p : ByteArray × Int) : List Value := [.string p.1, .int .i64 p.2]
theorem flat2 : ∀ (us : Vals) (i : Nat) (h : i < us.length), (us.flatMap cellsP)[i * 2]? = some (.string us[i].1) ∧ (us.flatMap cellsP)[i * 2 + 1]? = some (.int .i64 us[i].2)
  | u :: us, 0, h => ⟨rfl, rfl⟩
  | u :: us, i + 1, h => by
    have := flat2 us i (by simpa using h)
    rw [List.flatMap_cons, List.getElem?_append_right (by simp [cellsP]; omega), List.getElem?_append_right (by simp [cellsP]; omega)]
    simp only [cellsP, List.length_cons, List.length_nil, List.getElem_cons_succ]
    rw [show (i + 1) * 2 - (0 + 1 + 1) = i * 2 by omega, show (i + 1) * 2 + 1 - (0 + 1 + 1) = i * 2 + 1 by omega]
    exact this
abbrev PR (B : Nat) (w : World) (v : Value) (vs : Vals) : Prop := w.ownsRow B 80 2 v vs.length (vs.flatMap cellsP)
theorem PR.vrd {B : Nat} {w : World} {v : Value} {vs : Vals} (ho : PR B w v vs) (hr : VR vs) (hn : vs.length ≤ 1000000) : VRd All w vs v := by
  by_cases h0 : vs = []
  · subst h0
    rcases ho.2 with ⟨hn, -⟩ | ⟨g, cap, cur, hv, -⟩
    · exact ⟨none, 0, hn, by simp, hr, .inl rfl⟩
    · exact ⟨_, cap, hv, by simp, hr, .inl rfl⟩
  · have hp : 0 < vs.length := List.length_pos_iff.2 h0
    obtain ⟨g, cap, rfl, -, hlt⟩ := ho.form hp
    refine ⟨_, cap, rfl, hn, hr, .inr ⟨g, rfl, trivial, fun k hk => ?_⟩⟩
    have := flat2 vs k hk
    rw [ho.cellAt (k * 2) (by omega), ho.cellAt (k * 2 + 1) (by omega)]
    exact this
end Go.Proofs.YteomcpplajeidaaGreat
