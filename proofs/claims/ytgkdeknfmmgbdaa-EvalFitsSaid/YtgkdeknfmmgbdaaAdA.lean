/-
  Tenders and entries of chapter 4 as plain data; the first value with a name, and how many there are. Conditions: the slice reads as a list of values.
-/
import Derived.Test.YtgkdeknfmmgbdaaVa
namespace Go.Proofs.Ytgkdeknfmmgbdaa
set_option linter.unusedVariables false
set_option linter.unusedSimpArgs false
open Go.RowKit

/-- The first value with a name (0 where there is none), and how many there are. -/
def lkv : Vals → ByteArray → Int × Nat
  | [], _ => (0, 0)
  | x :: l, nm => if x.1.toList == nm.toList then (x.2, (lkv l nm).2 + 1) else lkv l nm
def cmb (n : Int) (m : Nat) (r : Int × Nat) : Int × Nat := if m = 0 then r else (n, m + r.2)
theorem lkv_le (vs : Vals) (nm : ByteArray) : (lkv vs nm).2 ≤ vs.length := by
  induction vs with
  | nil => exact Nat.le_refl _
  | cons x l ih => rw [lkv]; split <;> simp only [List.length_cons] <;> omega
theorem lkv_drop (vs : Vals) (nm : ByteArray) (k : Nat) (h : k < vs.length) : lkv (vs.drop k) nm = if vs[k].1.toList == nm.toList then (vs[k].2, (lkv (vs.drop (k + 1)) nm).2 + 1) else lkv (vs.drop (k + 1)) nm := by
  rw [List.drop_eq_getElem_cons h, lkv]
theorem cmb_yes0 {n : Int} {r : Int × Nat} {m : Nat} (hm : m = 0) (v : Int) : cmb n m (v, r.2 + 1) = cmb v (m + 1) r := by
  subst hm; unfold cmb; rw [if_pos rfl, if_neg (by omega)]; congr 1; omega
theorem cmb_yes {n : Int} {r : Int × Nat} {m : Nat} (hm : ¬ m = 0) (v : Int) : cmb n m (v, r.2 + 1) = cmb n (m + 1) r := by
  unfold cmb; rw [if_neg hm, if_neg (by omega)]; congr 1; omega

set_option maxRecDepth 100000 in
set_option maxHeartbeats 1000000 in
theorem lookup_any (vs : Vals) (nm : ByteArray) (w : World) (sl : Value) (hs : VRd All w vs sl) :
    Calls Try.prog 61 #[sl, .string nm] w fun e w' => e = .returned (.tuple #[.int .i64 (lkv vs nm).1, .int .i64 (lkv vs nm).2]) ∧ Ext w w' := by
  obtain ⟨base, cap, rfl, hlen, hr, hc⟩ := hs
  have HC := Lib.hid hc
  clear hr hc
  have HL := Lib.hid (lkv_le vs nm)
  go_enter Try.func61, Try.ntmps61
  go_wp2
  go_loopw [4, 5, 10] (fun n m i wr => ∃ (k c : Nat) (z : Int), k ≤ vs.length ∧ c ≤ k ∧ i = .int .i64 k ∧ n = .int .i64 z ∧ m = .int .i64 c ∧ Hid (lkv vs nm = cmb z c (lkv (vs.drop k) nm)) ∧ Hid (c = 0 → z = 0) ∧ Ext w wr) (fun _ _ i _ => vs.length - (intOf i).toNat)
  case atStart => exact ⟨0, 0, 0, Nat.zero_le _, Nat.zero_le _, by go_num, by go_num, by go_num, Lib.hid (by unfold cmb; rw [if_pos rfl]; rfl), Lib.hid (fun _ => rfl), Ext.refl _⟩
  case round =>
    obtain ⟨k, c, z, hk, hck, rfl, rfl, rfl, hi, hz, hx⟩ := hrel
    rcases Nat.lt_or_ge k vs.length with hlt | hge
    · obtain ⟨b, rfl, -, hcs⟩ := HC.out.resolve_left (by intro e; rw [e] at hlt; simp at hlt)
      have h0 := (hcs k hlt).1
      have h1 := (hcs k hlt).2
      have hb := World.block_lt_of_cell? w _ h0
      have h0' := (hx.cells.1 b _ hb).trans h0
      have h1' := (hx.cells.1 b _ hb).trans h1
      have HD := Lib.hid (hi.out.trans (congrArg (cmb z c) (lkv_drop vs nm k hlt)))
      generalize vs[k] = u at *
      obtain ⟨un, uz⟩ := u
      clear hcs h0 h1 HL
      cases hq : (un.toList == nm.toList)
      · have HE := Lib.hid (show lkv vs nm = cmb z c (lkv (vs.drop (k + 1)) nm) by rw [HD.out, hq]; rfl)
        go_wp2
        go_roundw
        case rel => exact ⟨k + 1, c, z, by omega, by omega, by go_num, rfl, rfl, HE, hz, (by with_reducible repeat (first | exact Ext.refl _ | assumption | apply Ext.drewN | apply Ext.drew | apply Ext.alloc | (refine Ext.setCell ?_ (by simp <;> omega) _) | (refine Ext.trans ?_ (by assumption))))⟩
        case measure => simp [intOf]; omega
      · rcases Nat.eq_zero_or_pos c with h0c | h0c
        · have HE := Lib.hid (show lkv vs nm = cmb uz (c + 1) (lkv (vs.drop (k + 1)) nm) by rw [HD.out, hq]; exact cmb_yes0 h0c uz)
          have hd : ((c : Int) == 0) = true := by simp [h0c]
          go_wp2
          go_roundw
          case rel => exact ⟨k + 1, c + 1, uz, by omega, by omega, by go_num, rfl, by go_num, HE, Lib.hid (fun h => by omega), (by with_reducible repeat (first | exact Ext.refl _ | assumption | apply Ext.drewN | apply Ext.drew | apply Ext.alloc | (refine Ext.setCell ?_ (by simp <;> omega) _) | (refine Ext.trans ?_ (by assumption))))⟩
          case measure => simp [intOf]; omega
        · have HE := Lib.hid (show lkv vs nm = cmb z (c + 1) (lkv (vs.drop (k + 1)) nm) by rw [HD.out, hq]; exact cmb_yes (by omega) uz)
          have hd : ((c : Int) == 0) = false := by simp; omega
          go_wp2
          go_roundw
          case rel => exact ⟨k + 1, c + 1, z, by omega, by omega, by go_num, rfl, by go_num, HE, Lib.hid (fun h => by omega), (by with_reducible repeat (first | exact Ext.refl _ | assumption | apply Ext.drewN | apply Ext.drew | apply Ext.alloc | (refine Ext.setCell ?_ (by simp <;> omega) _) | (refine Ext.trans ?_ (by assumption))))⟩
          case measure => simp [intOf]; omega
    · have HE := Lib.hid (show lkv vs nm = (z, c) by
        rw [hi.out, List.drop_eq_nil_of_le (by omega), lkv]; unfold cmb
        by_cases h : c = 0
        · rw [if_pos h, h, hz.out h]
        · rw [if_neg h]; rfl)
      have hkl : ¬ (k : Int) < (vs.length : Int) := by omega
      go_wp2
      go_ret2
      exact ⟨by rw [HE.out]; rfl, hx⟩

set_option maxRecDepth 100000 in
set_option maxHeartbeats 1000000 in
/-- The reference's: from the end. -/
theorem Find_any (vs : Vals) (nm : ByteArray) (w : World) (sl : Value) (hs : VRd All w vs sl) :
    Calls Try.prog 65 #[sl, .string nm] w fun e w' => e = .returned (.tuple #[.int .i64 (lkv vs nm).1, .int .i64 (lkv vs nm).2]) ∧ Ext w w' := by
  obtain ⟨base, cap, rfl, hlen, hr, hc⟩ := hs
  have HC := Lib.hid hc
  clear hr hc
  go_enter Try.func65, Try.ntmps65
  go_wp2
  go_loopw [6, 7, 8] (fun n m i wr => ∃ (k : Nat), k ≤ vs.length ∧ i = .int .i64 ((k : Int) - 1) ∧ n = .int .i64 (lkv (vs.drop k) nm).1 ∧ m = .int .i64 (lkv (vs.drop k) nm).2 ∧ Ext w wr) (fun _ _ i _ => (intOf i + 1).toNat)
  case atStart => exact ⟨vs.length, Nat.le_refl _, by go_num, by rw [List.drop_eq_nil_of_le (Nat.le_refl _)]; rfl, by rw [List.drop_eq_nil_of_le (Nat.le_refl _)]; rfl, Ext.refl _⟩
  case round =>
    obtain ⟨k, hk, rfl, rfl, rfl, hx⟩ := hrel
    rcases Nat.eq_zero_or_pos k with rfl | hpos
    · have HE := Lib.hid (show lkv (vs.drop 0) nm = lkv vs nm by rfl)
      generalize lkv (vs.drop 0) nm = r at *
      go_wp2
      go_ret2
      exact ⟨by rw [← HE.out]; rfl, hx⟩
    · obtain ⟨j, rfl⟩ : ∃ j, k = j + 1 := ⟨k - 1, by omega⟩
      have hlt : j < vs.length := by omega
      obtain ⟨b, rfl, -, hcs⟩ := HC.out.resolve_left (by intro e; rw [e] at hlt; simp at hlt)
      have h0 := (hcs j hlt).1
      have h1 := (hcs j hlt).2
      have hb := World.block_lt_of_cell? w _ h0
      have h0' := (hx.cells.1 b _ hb).trans h0
      have h1' := (hx.cells.1 b _ hb).trans h1
      have HD := Lib.hid (lkv_drop vs nm j hlt)
      have hle := lkv_le (vs.drop (j + 1)) nm
      rw [List.length_drop] at hle
      generalize lkv (vs.drop (j + 1)) nm = r at *
      obtain ⟨r1, r2⟩ := r
      have hle' : r2 ≤ 1000000 := by have h : r2 ≤ vs.length - (j + 1) := hle; omega
      generalize vs[j] = u at *
      obtain ⟨un, uz⟩ := u
      have hj : ((j + 1 : Nat) : Int) - 1 = (j : Int) := by omega
      rw [hj]
      clear hcs h0 h1 hle hj
      cases hq : (un.toList == nm.toList)
      · have HE := Lib.hid (show lkv (vs.drop j) nm = (r1, r2) by rw [HD.out, hq]; rfl)
        go_wp2
        go_roundw
        case rel => exact ⟨j, by omega, by go_num, by rw [HE.out], by rw [HE.out], (by with_reducible repeat (first | exact Ext.refl _ | assumption | apply Ext.drewN | apply Ext.drew | apply Ext.alloc | (refine Ext.setCell ?_ (by simp <;> omega) _) | (refine Ext.trans ?_ (by assumption))))⟩
        case measure => simp [intOf]
      · have HE := Lib.hid (show lkv (vs.drop j) nm = (uz, r2 + 1) by rw [HD.out, hq]; rfl)
        go_wp2
        go_roundw
        case rel => exact ⟨j, by omega, by go_num, by rw [HE.out], by rw [HE.out]; go_num, (by with_reducible repeat (first | exact Ext.refl _ | assumption | apply Ext.drewN | apply Ext.drew | apply Ext.alloc | (refine Ext.setCell ?_ (by simp <;> omega) _) | (refine Ext.trans ?_ (by assumption))))⟩
        case measure => simp [intOf]
end Go.Proofs.Ytgkdeknfmmgbdaa
