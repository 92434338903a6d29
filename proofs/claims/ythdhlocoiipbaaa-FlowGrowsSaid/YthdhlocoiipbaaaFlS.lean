/-
  The reference's SameAll; what a load of an item or a message gives. Conditions: what the slices hold.
-/
import Derived.Test.YthdhlocoiipbaaaFlR
namespace Go.Proofs.Ythdhlocoiipbaaa
set_option linter.unusedVariables false
set_option linter.unusedSimpArgs false
open Go.RowKit

section
variable {ρ : Operand → Value} {d : Option Tmp} {x : Operand} {ty : TypeId} {ps : String} {af : Array Edge} {gd : Option (Nat × Bool)} {w : World} {b o : Nat}
theorem up_load48 {c0 c1 c2 c3 : Value} (hx : ρ x = .pointer (some ⟨b, o, none⟩)) (h0 : w.cell? ⟨b, o, none⟩ = some c0) (h1 : w.cell? ⟨b, o + 1, none⟩ = some c1) (h2 : w.cell? ⟨b, o + 2, none⟩ = some c2) (h3 : w.cell? ⟨b, o + 3, none⟩ = some c3) :
    Rg.up Try.prog w (.agg #[c0, c1, c2, c3]) ((execOp ρ { dst := d, op := .load 48 x, type := ty, pos := ps, after := af, guard := gd }).run Try.prog w) := by
  simp only [execOp, hx]
  go_simp
  exact Rg.up_value
theorem up_load32 {c0 c1 c2 : Value} (hx : ρ x = .pointer (some ⟨b, o, none⟩)) (h0 : w.cell? ⟨b, o, none⟩ = some c0) (h1 : w.cell? ⟨b, o + 1, none⟩ = some c1) (h2 : w.cell? ⟨b, o + 2, none⟩ = some c2) :
    Rg.up Try.prog w (.agg #[c0, c1, c2]) ((execOp ρ { dst := d, op := .load 32 x, type := ty, pos := ps, after := af, guard := gd }).run Try.prog w) := by
  simp only [execOp, hx]
  go_simp
  exact Rg.up_value
end

/-- Two lists of messages are alike. -/
def sameL : List Ms → List Ms → Bool
  | [], [] => true
  | a :: as', b :: bs => sameM a b && sameL as' bs
  | _, _ => false
theorem sameL_len : ∀ {l m : List Ms}, sameL l m = true → l.length = m.length
  | [], [], _ => rfl
  | a :: l, b :: m, h => by
    rw [sameL, Bool.and_eq_true] at h
    simp [sameL_len h.2]
  | [], b :: m, h => by simp [sameL] at h
  | a :: l, [], h => by simp [sameL] at h
theorem sameL_step {l m : List Ms} {k : Nat} (h1 : k < l.length) (h2 : k < m.length) : sameL (l.drop k) (m.drop k) = (sameM l[k] m[k] && sameL (l.drop (k + 1)) (m.drop (k + 1))) := by
  rw [List.drop_eq_getElem_cons h1, List.drop_eq_getElem_cons h2, sameL]

set_option maxRecDepth 100000 in
set_option maxHeartbeats 4000000 in
theorem SameAll_any (v u : Value) (l m : List Ms) (w : World) (hl : RM w v l) (hm : RM w u m) :
    Calls Try.prog 20 #[v, u] w fun e w' => e = .returned (.bool (sameL l m)) ∧ Ext w w' := by
  obtain ⟨bl, cl, rfl⟩ := hl.1.form
  obtain ⟨bm, cm, rfl⟩ := hm.1.form
  have hll := hl.1.le
  by_cases hlm : l.length = m.length
  · have HLL := Lib.hid hl; have HMM := Lib.hid hm; clear hl hm
    rw [← hlm]
    have HL := Lib.hid hlm; clear hlm
    obtain ⟨n, hn⟩ : ∃ n, l.length = n := ⟨_, rfl⟩
    rw [hn] at hll ⊢
    go_enter Try.func20, Try.ntmps20
    go_wp2_with (fail)
    go_loopw [5] (fun i wr => ∃ k : Nat, k ≤ n ∧ i = .int .i64 k ∧ Hid (sameL l m = sameL (l.drop k) (m.drop k)) ∧ Ext w wr) (fun i _ => n - (iof i).toNat)
    case atStart => exact ⟨0, Nat.zero_le _, rfl, Lib.hid rfl, Ext.refl _⟩
    case round =>
      obtain ⟨k, hk, rfl, Hi, hx⟩ := hrel
      by_cases hlt : k < n
      · have h1 : k < l.length := by omega
        have h2 : k < m.length := by have := HL.out; omega
        have hl1 := HLL.out.ext hx
        have hm1 := HMM.out.ext hx
        obtain ⟨b, off, rfl, -, c0, c1, c2, c3⟩ := ms_at hl1.1 k h1
        obtain ⟨b', off', rfl, -, d0, d1, d2, d3⟩ := ms_at hm1.1 k h2
        have hS : ∀ wz, Ext wr wz → _ := fun wz hw => Same_any l[k] m[k] wz ((hl1.2 _ (List.getElem_mem _)).ext hw) ((hm1.2 _ (List.getElem_mem _)).ext hw)
        simp only [Ms.v] at hS
        have Hs := Lib.hid (sameL_step h1 h2)
        have l1 := World.block_lt_of_cell? wr ⟨b, off + k * 4, none⟩ c0
        have l2 := World.block_lt_of_cell? wr ⟨b', off' + k * 4, none⟩ d0
        clear hl1 hm1
        generalize hsm : sameM l[k] m[k] = s at *
        go_upto_region 6 with (fail)
        refine Rr.wp_region ((List.range 9).map (fun i => (i, .y))) (fun _ => (.cells #[] 29, Rg.ptr)) (by kernel_rfl) (by kernel_rfl) ?_
        simp only [List.range, List.range.loop, List.map_cons, List.map_nil]
        (refine Rr.wr_y (by simp only [List.getElem?_toArray, List.getElem?_cons_succ, List.getElem?_cons_zero]; rfl) (by rfl) ?_
         apply Exists.intro
         refine ⟨fun wz hw _ => ?_, ?_⟩
         · have hcz := hw.cells.1
           go_simp
           (with_reducible exact Rg.up_value)
         simp only [Act.put, List.setIfInBounds_toArray, List.set_cons_zero, List.set_cons_succ])
        (refine Rr.wr_y (by simp only [List.getElem?_toArray, List.getElem?_cons_succ, List.getElem?_cons_zero]; rfl) (by rfl) ?_
         apply Exists.intro
         refine ⟨fun wz hw _ => ?_, ?_⟩
         · have hcz := hw.cells.1
           go_simp
           (with_reducible exact Rg.up_value)
         simp only [Act.put, List.setIfInBounds_toArray, List.set_cons_zero, List.set_cons_succ])
        (refine Rr.wr_y (by simp only [List.getElem?_toArray, List.getElem?_cons_succ, List.getElem?_cons_zero]; rfl) (by rfl) ?_
         apply Exists.intro
         refine ⟨fun wz hw _ => ?_, ?_⟩
         · have hcz := hw.cells.1
           go_simp
           (with_reducible exact Rg.up_value)
         simp only [Act.put, List.setIfInBounds_toArray, List.set_cons_zero, List.set_cons_succ])
        (refine Rr.wr_y (by simp only [List.getElem?_toArray, List.getElem?_cons_succ, List.getElem?_cons_zero]; rfl) (by rfl) ?_
         apply Exists.intro
         refine ⟨fun wz hw _ => ?_, ?_⟩
         · have hcz := hw.cells.1
           exact up_load48 (by rfl) ((hcz _ _ l1).trans c0) ((hcz _ _ l1).trans c1) ((hcz _ _ l1).trans c2) ((hcz _ _ l1).trans c3)
         simp only [Act.put, List.setIfInBounds_toArray, List.set_cons_zero, List.set_cons_succ])
        (refine Rr.wr_y (by simp only [List.getElem?_toArray, List.getElem?_cons_succ, List.getElem?_cons_zero]; rfl) (by rfl) ?_
         apply Exists.intro
         refine ⟨fun wz hw _ => ?_, ?_⟩
         · have hcz := hw.cells.1
           go_simp
           (with_reducible exact Rg.up_value)
         simp only [Act.put, List.setIfInBounds_toArray, List.set_cons_zero, List.set_cons_succ])
        (refine Rr.wr_y (by simp only [List.getElem?_toArray, List.getElem?_cons_succ, List.getElem?_cons_zero]; rfl) (by rfl) ?_
         apply Exists.intro
         refine ⟨fun wz hw _ => ?_, ?_⟩
         · have hcz := hw.cells.1
           go_simp
           (with_reducible exact Rg.up_value)
         simp only [Act.put, List.setIfInBounds_toArray, List.set_cons_zero, List.set_cons_succ])
        (refine Rr.wr_y (by simp only [List.getElem?_toArray, List.getElem?_cons_succ, List.getElem?_cons_zero]; rfl) (by rfl) ?_
         apply Exists.intro
         refine ⟨fun wz hw _ => ?_, ?_⟩
         · have hcz := hw.cells.1
           go_simp
           (with_reducible exact Rg.up_value)
         simp only [Act.put, List.setIfInBounds_toArray, List.set_cons_zero, List.set_cons_succ])
        (refine Rr.wr_y (by simp only [List.getElem?_toArray, List.getElem?_cons_succ, List.getElem?_cons_zero]; rfl) (by rfl) ?_
         apply Exists.intro
         refine ⟨fun wz hw _ => ?_, ?_⟩
         · have hcz := hw.cells.1
           exact up_load48 (by rfl) ((hcz _ _ l2).trans d0) ((hcz _ _ l2).trans d1) ((hcz _ _ l2).trans d2) ((hcz _ _ l2).trans d3)
         simp only [Act.put, List.setIfInBounds_toArray, List.set_cons_zero, List.set_cons_succ])
        (refine Rr.wr_y (by simp only [List.getElem?_toArray, List.getElem?_cons_succ, List.getElem?_cons_zero]; rfl) (by rfl) ?_
         apply Exists.intro
         refine ⟨fun wz hw _ => ?_, ?_⟩
         · have hcz := hw.cells.1
           go_simp
           apply Rg.up_enter
           (with_reducible refine (hS wz hw).mono ?_)
           rintro e w3 ⟨rfl, hb3⟩
           exact ⟨rfl, hb3⟩
         simp only [Act.put, List.setIfInBounds_toArray, List.set_cons_zero, List.set_cons_succ])
        refine Rr.wr_nil ?_
        intro wy hy hh
        simp only [List.length_cons, List.length_nil, List.drop_succ_cons, List.drop_zero, Nat.reduceAdd]
        clear hh
        cases s
        · go_wp2_with (fail)
          go_ret
          exact ⟨by rw [Hi.out, Hs.out]; rfl, hx.trans hy⟩
        · go_wp2_with (fail)
          exact ⟨⟨k + 1, by omega, by simp, Lib.hid (by rw [Hi.out, Hs.out]; rfl), hx.trans hy⟩, by simp; omega⟩
      · obtain rfl : k = n := by omega
        go_wp2_with (fail)
        go_ret
        refine ⟨?_, hx⟩
        have := HL.out
        rw [Hi.out, List.drop_of_length_le (by omega), List.drop_of_length_le (by omega)]
        rfl
  · have hne : sameL l m = false := by
      cases h : sameL l m
      · rfl
      · exact absurd (sameL_len h) hlm
    rw [hne]
    clear hne
    go_enter Try.func20, Try.ntmps20
    go_wp2_with (fail)
    go_ret
    exact ⟨rfl, Ext.refl _⟩

end Go.Proofs.Ythdhlocoiipbaaa
