/-
  The reference's Mod, Name, contains, criterion and duty. Conditions: what the slices hold.
-/
import Derived.Test.YtnplnfkmcfalhaaGreatDoorLtP
import Derived.Test.YtnplnfkmcfalhaaGreatDoorMeB
import Derived.BigQuiet
import Derived.Deep.QuietTactic
namespace Go.Proofs.YtnplnfkmcfalhaaGreatDoor
set_option linter.unusedVariables false
set_option linter.unusedSimpArgs false
open Go.RowKit

abbrev modZ (n m : Int) : Int := n % m
theorem tmod_bd (n : Int) {m : Int} (hm : 0 < m) : -m < n.tmod m ∧ n.tmod m < m := by
  have h1 := Int.tmod_lt_of_pos n hm
  have h2 := Int.tmod_lt_of_pos (-n) hm
  rw [Int.neg_tmod] at h2
  exact ⟨by omega, h1⟩
theorem modZ_eq (n m : Int) : (n.tmod m + m) % m = n % m := by
  rw [Int.add_emod_right]
  conv => rhs; rw [← Int.tmod_add_mul_tdiv n m]
  rw [Int.add_mul_emod_self_left]
theorem modZ_bd (n : Int) {m : Int} (hm : 0 < m) : 0 ≤ modZ n m ∧ modZ n m < m :=
  ⟨Int.emod_nonneg _ (by omega), Int.emod_lt_of_pos _ hm⟩
set_option maxHeartbeats 400000 in
theorem Mod_any (n m : Int) (hm : 0 < m) (hm2 : m ≤ 1000000) (hn : OkI n) (w : World) :
    Calls Tryz.prog 18 #[.int .i64 n, .int .i64 m] w fun e w' => e = .returned (.int .i64 (modZ n m)) ∧ Ext w w' := by
  obtain ⟨h1, h2⟩ := hn
  have hm0 : ¬ m = 0 := by omega
  have b := tmod_bd n hm
  have HE := Lib.hid (modZ_eq n m)
  go_enter Tryz.func18, Tryz.ntmps18
  go_wp2
  go_ret
  exact ⟨by rw [HE.out]; rfl, Ext.refl _⟩
def nameB : Nat → ByteArray
  | 0 => quaB | 1 => planB | 2 => ⟨#[116, 101, 97, 109]⟩ | _ => ⟨#[111, 116, 104, 101, 114]⟩
theorem nameB_ok : ∀ i, OkS (nameB i) := fun i => by
  match i with
  | 0 => exact quaB_ok
  | 1 => exact planB_ok
  | 2 => unfold nameB OkS maxLen; decide
  | n + 3 => show OkS ⟨#[111, 116, 104, 101, 114]⟩; unfold OkS maxLen; decide
abbrev nameT : Array Value := #[.string quaB, .string planB, .string ⟨#[116, 101, 97, 109]⟩, .string ⟨#[111, 116, 104, 101, 114]⟩]
theorem nameT_at {w : World} {p : Nat} (h : w.heap[p]? = some (.cells nameT 9)) (i : Nat) (hi : i < 4) : w.cell? ⟨p, i, none⟩ = some (.string (nameB i)) := by
  rw [cell_of_row w p _ _ _ _ h]
  match i, hi with
  | 0, _ => rfl
  | 1, _ => rfl
  | 2, _ => rfl
  | 3, _ => rfl
theorem Name_any (n : Int) (hn : OkI n) (w : World) :
    Calls Tryz.prog 38 #[.int .i64 n] w fun e w' => e = .returned (.string (nameB (modZ n 4).toNat)) ∧ Ext w w' := by
  have HM := Lib.hid (Mod_any n 4 (by omega) (by omega) hn)
  obtain ⟨b0, b1⟩ := modZ_bd n (m := 4) (by omega)
  generalize modZ n 4 = z at *
  have ht := nameT_at (heap_alloc_new w (.cells nameT 9)) z.toNat (by omega)
  go_enter Tryz.func38, Tryz.ntmps38
  go_wp2_with (go_at_call 18; (with_reducible refine (HM.out _).mono ?_); rintro e w2 ⟨rfl, hx2⟩; have ht2 := (hx2.cells.1 _ _ (World.block_lt_of_cell? _ _ ht)).trans ht)
  go_ret
  exact ⟨rfl, (Ext.alloc (Ext.refl _) _).trans hx2⟩

set_option maxRecDepth 100000 in
set_option maxHeartbeats 1000000 in
theorem contains_any (v : Value) (l : List Int) (x : Int) (w : World) (hl : IRd w v l) :
    Calls Tryz.prog 39 #[v, .int .i64 x] w fun e w' => e = .returned (.bool (decide (x ∈ l))) ∧ Ext w w' := by
  obtain ⟨A, c, rfl, hlen, -, hcell⟩ := hl
  go_enter Tryz.func39, Tryz.ntmps39
  go_wp2_with (fail)
  go_loopw [5] (fun i wr => ∃ k : Nat, k ≤ l.length ∧ i = .int .i64 k ∧ Hid (x ∈ l ↔ x ∈ l.drop k) ∧ Ext w wr) (fun i _ => l.length - (iof i).toNat)
  case atStart => exact ⟨0, Nat.zero_le _, rfl, Lib.hid Iff.rfl, Ext.refl _⟩
  case round =>
    obtain ⟨k, hk, rfl, Hi, hx⟩ := hrel
    by_cases hlt : k < l.length
    · obtain ⟨b, off, rfl, hc⟩ := hcell.resolve_left (by intro e; rw [e] at hlt; simp at hlt)
      have c0 := (hx.cells.1 _ _ (World.block_lt_of_cell? w _ (hc k hlt))).trans (hc k hlt)
      have Hs : Hid (x ∈ l.drop k ↔ x = l[k] ∨ x ∈ l.drop (k + 1)) := Lib.hid (by
        rw [List.drop_eq_getElem_cons hlt, List.mem_cons])
      by_cases hp : l[k] = x
      · have Hp := Lib.hid hp
        go_wp2_with (fail)
        go_ret
        have : x ∈ l := Hi.out.2 (Hs.out.2 (.inl Hp.out.symm))
        exact ⟨by rw [decide_eq_true this]; rfl, hx⟩
      · have Hp := Lib.hid hp
        go_wp2_with (fail)
        exact ⟨⟨k + 1, by omega, by simp, Lib.hid ((Hi.out.trans Hs.out).trans ⟨fun h => h.resolve_left (fun e => Hp.out e.symm), .inr⟩), hx⟩, by simp; omega⟩
    · have hkn : k = l.length := by omega
      subst hkn
      go_wp2_with (fail)
      go_ret
      have : ¬ x ∈ l := fun h => by have := Hi.out.1 h; rw [List.drop_length] at this; cases this
      exact ⟨by rw [decide_eq_false this]; rfl, hx⟩

set_option maxRecDepth 100000 in
set_option maxHeartbeats 1000000 in
theorem duty_any (p : Nat) (v0 v1 vd v3 v4 v5 : Value) (D : List Dy) (d : Dy) (w : World) (hp : w.heap[p]? = some (.cells #[v0, v1, vd, v3, v4, v5] 80)) (hd : SR Dy.cs 2 w vd D) :
    Calls Tryz.prog 41 #[.pointer (some ⟨p, 0, none⟩), encD d] w fun e w' => e = .returned (.bool (decide (d ∈ D))) ∧ Ext w w' := by
  obtain ⟨A, c, rfl⟩ := hd.form
  obtain ⟨da, db⟩ := d
  have hle := hd.le
  have HD := Lib.hid hd; have HP := Lib.hid hp
  clear hd hp
  unfold encD
  go_enter Tryz.func41, Tryz.ntmps41
  go_wp2_with (fail)
  go_loopw [5] (fun i wr => ∃ k : Nat, k ≤ D.length ∧ i = .int .i64 k ∧ Hid ((⟨da, db⟩ : Dy) ∈ D ↔ (⟨da, db⟩ : Dy) ∈ D.drop k) ∧ Ext (w.alloc (.cells #[.int .i64 da, .int .i64 db] 57)) wr) (fun i _ => D.length - (iof i).toNat)
  case atStart => exact ⟨0, Nat.zero_le _, rfl, Lib.hid Iff.rfl, Ext.refl _⟩
  case round =>
    obtain ⟨k, hk, rfl, Hi, hx⟩ := hrel
    have hxw : Ext w wr := (Ext.alloc (Ext.refl w) _).trans hx
    have hb := (hx.block w.heap.size (by simp)).trans (heap_alloc_new w (.cells #[.int .i64 da, .int .i64 db] 57))
    have e0 := cell_of_row wr _ 0 _ _ _ hb
    have e1 := cell_of_row wr _ 1 _ _ _ hb
    have c2 := cell_of_row wr p 2 _ _ _ ((hxw.block _ (Rg.lt_of_heap HP.out)).trans HP.out)
    by_cases hlt : k < D.length
    · obtain ⟨b, rfl, hc⟩ := row_at (HD.out.ext hxw) k hlt
      have c0 := hc 0 _ rfl
      have c1 := hc 1 _ rfl
      have Hs : Hid ((⟨da, db⟩ : Dy) ∈ D.drop k ↔ ⟨da, db⟩ = D[k] ∨ (⟨da, db⟩ : Dy) ∈ D.drop (k + 1)) := Lib.hid (by
        rw [List.drop_eq_getElem_cons hlt, List.mem_cons])
      clear hc hb
      generalize D[k] = y at *
      obtain ⟨ya, yb⟩ := y
      simp only [Nat.add_zero] at c0 c1
      by_cases hp1 : ya = da
      · by_cases hp2 : yb = db
        · subst hp1 hp2
          go_upto_region 4 with (fail)
          go_quiet (fail)
          go_wp2_with (fail)
          go_ret
          have : (⟨ya, yb⟩ : Dy) ∈ D := Hi.out.2 (Hs.out.2 (.inl (by simp)))
          exact ⟨by rw [decide_eq_true this]; rfl, Ext.drewN hxw _⟩
        · subst hp1
          have HP2 := Lib.hid hp2
          go_upto_region 4 with (fail)
          go_quiet (fail)
          go_wp2_with (fail)
          exact ⟨⟨k + 1, by omega, by simp, Lib.hid ((Hi.out.trans Hs.out).trans ⟨fun h => h.resolve_left (fun e => HP2.out (by injection e with _ e; exact e.symm)), .inr⟩), Ext.drewN hx _⟩, by simp; omega⟩
      · have HP1 := Lib.hid hp1
        go_upto_region 4 with (fail)
        go_quiet (fail)
        go_wp2_with (fail)
        exact ⟨⟨k + 1, by omega, by simp, Lib.hid ((Hi.out.trans Hs.out).trans ⟨fun h => h.resolve_left (fun e => HP1.out (by injection e with e _; exact e.symm)), .inr⟩), Ext.drewN hx _⟩, by simp; omega⟩
    · have hkn : k = D.length := by omega
      subst hkn
      clear hb
      go_wp2_with (fail)
      go_ret
      have : ¬ (⟨da, db⟩ : Dy) ∈ D := fun h => by have := Hi.out.1 h; rw [List.drop_length] at this; cases this
      exact ⟨by rw [decide_eq_false this]; rfl, hxw⟩

def zeroCr : Cr := ⟨⟨#[]⟩, 0, 0, 0, false⟩
def critOf (C : List Cr) (n : ByteArray) : Option Cr := C.find? fun c => decide (c.name = n)
set_option maxRecDepth 100000 in
set_option maxHeartbeats 1000000 in
theorem criterion_any (p : Nat) (v0 vc v2 v3 v4 v5 : Value) (C : List Cr) (n : ByteArray) (w : World) (hp : w.heap[p]? = some (.cells #[v0, vc, v2, v3, v4, v5] 80)) (hd : SR Cr.cs 5 w vc C) :
    Calls Tryz.prog 40 #[.pointer (some ⟨p, 0, none⟩), .string n] w fun e w' => e = .returned (.tuple #[((critOf C n).getD zeroCr).v, .bool (critOf C n).isSome]) ∧ Ext w w' := by
  obtain ⟨A, c, rfl⟩ := hd.form
  have hle := hd.le
  have HD := Lib.hid hd; have HP := Lib.hid hp
  clear hd hp
  go_enter Tryz.func40, Tryz.ntmps40
  go_wp2_with (fail)
  go_loopw [6] (fun i wr => ∃ k : Nat, k ≤ C.length ∧ i = .int .i64 k ∧ Hid (critOf C n = critOf (C.drop k) n) ∧ Ext (w.alloc (.cells #[.string ⟨#[]⟩, .int .i64 0, .int .i64 0, .int .i64 0, .bool false] 73)) wr ∧ wr.heap[w.heap.size]? = some (.cells #[.string ⟨#[]⟩, .int .i64 0, .int .i64 0, .int .i64 0, .bool false] 73)) (fun i _ => C.length - (iof i).toNat)
  case atStart => exact ⟨0, Nat.zero_le _, rfl, Lib.hid rfl, Ext.refl _, heap_alloc_new _ _⟩
  case round =>
    obtain ⟨k, hk, rfl, Hi, hx, hb⟩ := hrel
    have hxw : Ext w wr := (Ext.alloc (Ext.refl w) _).trans hx
    have HB := Lib.hid hb
    have c2 := cell_of_row wr p 1 _ _ _ ((hxw.block _ (Rg.lt_of_heap HP.out)).trans HP.out)
    by_cases hlt : k < C.length
    · obtain ⟨b, rfl, hc⟩ := row_at (HD.out.ext hxw) k hlt
      have c0 := hc 0 _ rfl
      have c1 := hc 1 _ rfl
      have c3 := hc 2 _ rfl
      have c4 := hc 3 _ rfl
      have c5 := hc 4 _ rfl
      have Hs : Hid (critOf (C.drop k) n = if C[k].name = n then some C[k] else critOf (C.drop (k + 1)) n) := Lib.hid (by
        unfold critOf
        rw [List.drop_eq_getElem_cons hlt, List.find?_cons]
        by_cases e : C[k].name = n <;> simp [e])
      clear hc
      generalize C[k] = y at *
      obtain ⟨yn, yk, yl, yh, yb⟩ := y
      simp only [Nat.add_zero] at c0 c1 c3 c4 c5 Hs
      by_cases hp1 : yn = n
      · subst hp1
        have HR : Hid (critOf C yn = some ⟨yn, yk, yl, yh, yb⟩) := Lib.hid (by rw [Hi.out, Hs.out, if_pos rfl])
        clear hb
        go_wp2_with (refine wpList_store_row (hgd := rfl) 73 (.tmp 4) (.tmp 32) rfl w.heap.size (by rfl) #[.string yn, .int .i64 yk, .int .i64 yl, .int .i64 yh, .bool yb] (by rfl) #[.string ⟨#[]⟩, .int .i64 0, .int .i64 0, .int .i64 0, .bool false] 73 HB.out (by rfl) (by kernel_rfl) (by simp [Value.oneCell']) ?_)
        have hbo := setRow_heap wr w.heap.size _ #[.string yn, .int .i64 yk, .int .i64 yl, .int .i64 yh, .bool yb] 73 _ HB.out
        have e0 := cell_of_row _ _ 0 _ _ _ hbo
        have e1 := cell_of_row _ _ 1 _ _ _ hbo
        have e2 := cell_of_row _ _ 2 _ _ _ hbo
        have e3 := cell_of_row _ _ 3 _ _ _ hbo
        have e4 := cell_of_row _ _ 4 _ _ _ hbo
        exact bodyPost_ret (v := .tuple #[.agg #[.string yn, .int .i64 yk, .int .i64 yl, .int .i64 yh, .bool yb], .bool true]) (by simp [results, Tryz.results40, go_sem, e0, e1, e2, e3, e4]) rfl ⟨by rw [HR.out]; rfl, below_setRow hxw (Nat.le_refl _) _⟩
      · have HP1 := Lib.hid hp1
        have hne : (yn.toList == n.toList) = false := by
          rw [beq_eq_false_iff_ne, ByteArray.toList_eq, ByteArray.toList_eq]
          exact fun e => hp1 (Go.WideShapes.bytes_inj e)
        clear hb
        go_wp2_with (fail)
        exact ⟨⟨k + 1, by omega, by simp, Lib.hid (by rw [Hi.out, Hs.out, if_neg HP1.out]), hx, HB.out⟩, by simp; omega⟩
    · have hkn : k = C.length := by omega
      subst hkn
      have HR : Hid (critOf C n = none) := Lib.hid (by rw [Hi.out, List.drop_length]; rfl)
      clear hb
      go_wp2_with (refine wpList_store_row (hgd := rfl) 73 (.tmp 4) (.tmp 33) rfl w.heap.size (by rfl) #[.string ⟨#[]⟩, .int .i64 0, .int .i64 0, .int .i64 0, .bool false] (by rfl) #[.string ⟨#[]⟩, .int .i64 0, .int .i64 0, .int .i64 0, .bool false] 73 HB.out (by rfl) (by kernel_rfl) (by simp [Value.oneCell']) ?_)
      have hbo := setRow_heap wr w.heap.size _ #[.string ⟨#[]⟩, .int .i64 0, .int .i64 0, .int .i64 0, .bool false] 73 _ HB.out
      have e0 := cell_of_row _ _ 0 _ _ _ hbo
      have e1 := cell_of_row _ _ 1 _ _ _ hbo
      have e2 := cell_of_row _ _ 2 _ _ _ hbo
      have e3 := cell_of_row _ _ 3 _ _ _ hbo
      have e4 := cell_of_row _ _ 4 _ _ _ hbo
      exact bodyPost_ret (v := .tuple #[.agg #[.string ⟨#[]⟩, .int .i64 0, .int .i64 0, .int .i64 0, .bool false], .bool false]) (by simp [results, Tryz.results40, go_sem, e0, e1, e2, e3, e4]) rfl ⟨by rw [HR.out]; rfl, below_setRow hxw (Nat.le_refl _) _⟩
end Go.Proofs.YtnplnfkmcfalhaaGreatDoor
