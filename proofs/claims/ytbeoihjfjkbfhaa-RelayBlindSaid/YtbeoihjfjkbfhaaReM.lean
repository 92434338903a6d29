/-
  Same: two batches compared. Condition: what lies in memory.
-/
import Derived.Test.YtbeoihjfjkbfhaaReL
namespace Go.Proofs.Ytbeoihjfjkbfhaa
set_option linter.unusedVariables false
set_option linter.unusedSimpArgs false
open Go.RowKit
theorem str_at {w : World} {base : Option Addr} {n c : Nat} {l : List ByteArray} (h : SR celS 1 w (.slice base n c) l) (k : Nat) (hk : k < l.length) :
    ∃ b, base = some ⟨b, 0, none⟩ ∧ b < w.heap.size ∧ w.cell? ⟨b, k, none⟩ = some (.string l[k]) := by
  obtain ⟨b, h1, h2, h3⟩ := h.block k hk
  have h4 := h3 k hk 0 _ rfl
  rw [Nat.mul_one, Nat.add_zero] at h4
  exact ⟨b, h1, World.block_lt_of_cell? w _ h4, h4⟩
theorem same_none (w : World) : Calls Try.prog 15 #[.slice none 0 0, .slice none 0 0] w fun e w' => e = .returned (.bool true) ∧ Ext w w' := by
  go_enter Try.func15, Try.ntmps15
  go_wp2_with (fail)
  go_loopw [5] (fun k wr => k = .int .i64 0 ∧ w = wr) (fun _ _ => 0)
  case atStart => exact ⟨rfl, rfl⟩
  case round =>
    obtain ⟨rfl, rfl⟩ := hrel
    go_wp2_with (fail)
    go_ret
    exact ⟨rfl, Ext.refl _⟩
theorem same_n1 (a : Option Addr) (w : World) : Calls Try.prog 15 #[.slice none 0 0, .slice a 1 1] w fun e w' => e = .returned (.bool false) ∧ Ext w w' := by
  go_enter Try.func15, Try.ntmps15
  go_wp2
  go_ret
  exact ⟨rfl, Ext.refl _⟩
theorem same_1n (a : Option Addr) (w : World) : Calls Try.prog 15 #[.slice a 1 1, .slice none 0 0] w fun e w' => e = .returned (.bool false) ∧ Ext w w' := by
  go_enter Try.func15, Try.ntmps15
  go_wp2
  go_ret
  exact ⟨rfl, Ext.refl _⟩
theorem take_eq_step {α : Type} {l m : List α} {k : Nat} (hl : k < l.length) (hm : k < m.length) (h : l.take k = m.take k) (he : l[k] = m[k]) : l.take (k + 1) = m.take (k + 1) := by
  rw [List.take_succ_eq_append_getElem hl, List.take_succ_eq_append_getElem hm, h, he]
set_option maxRecDepth 100000 in
set_option maxHeartbeats 4000000 in
theorem same_some (g1 g2 : Nat) (u1 u2 : Value) (l m : List ByteArray) (w : World) (h1 : w.cell? ⟨g1, 0, none⟩ = some u1) (h2 : w.cell? ⟨g2, 0, none⟩ = some u2) (hl : SR celS 1 w u1 l) (hm : SR celS 1 w u2 m) :
    Calls Try.prog 15 #[.slice (some ⟨g1, 0, none⟩) 1 1, .slice (some ⟨g2, 0, none⟩) 1 1] w fun e w' => e = .returned (.bool (decide (l = m))) ∧ Ext w w' := by
  obtain ⟨a1, c1, rfl⟩ := hl.form
  obtain ⟨a2, c2, rfl⟩ := hm.form
  have hle1 := hl.le; have hle2 := hm.le
  have b1 := World.block_lt_of_cell? w _ h1; have b2 := World.block_lt_of_cell? w _ h2
  obtain ⟨R, hR⟩ : ∃ R, R = decide (l = m) := ⟨_, rfl⟩
  rw [← hR]
  have HR := Lib.hid hR
  clear hR
  go_enter Try.func15, Try.ntmps15
  go_wp2_with (fail)
  go_loopw [5] (fun k wr => ∃ i : Nat, k = .int .i64 i ∧ i ≤ 1 ∧ Hid (i = 1 → l = m) ∧ Ext w wr) (fun k _ => 1 - (iof k).toNat)
  case atStart => exact ⟨0, rfl, by omega, Lib.hid (by omega), Ext.refl _⟩
  case round =>
    obtain ⟨i, rfl, hi, HI, hx⟩ := hrel
    by_cases hi1 : i = 1
    · subst hi1
      have hlm := HI.out rfl
      have HLM := Lib.hid hlm
      clear hlm
      go_wp2_with (fail)
      go_ret
      exact ⟨by rw [HR.out, decide_eq_true HLM.out]; rfl, hx⟩
    · obtain rfl : i = 0 := by omega
      have d1 := (hx.cells.1 _ _ b1).trans h1
      have d2 := (hx.cells.1 _ _ b2).trans h2
      have e1 : g1 < wr.heap.size := Nat.lt_of_lt_of_le b1 hx.size
      have e2 : g2 < wr.heap.size := Nat.lt_of_lt_of_le b2 hx.size
      have HX := Lib.hid hx
      clear HI hi hi1 hx
      by_cases hlen : l.length = m.length
      · have HLEN := Lib.hid hlen
        have hlz : (l.length : Int) = (m.length : Int) := by omega
        go_upto_region 6 with (fail)
        go_quiet (fail)
        have HX1 := Lib.hid (HX.out.drewN nq)
        have JD1 : Hid ((wr.drewN nq).cell? ⟨g1, 0, none⟩ = some (.slice a1 l.length c1)) := Lib.hid d1
        have JD2 : Hid ((wr.drewN nq).cell? ⟨g2, 0, none⟩ = some (.slice a2 m.length c2)) := Lib.hid d2
        clear d1 d2 e1 e2 hlen
        generalize wr.drewN nq = W1 at *
        go_wp2_with (fail)
        clear hlz
        go_loopw [6] (fun k wq => ∃ j : Nat, k = .int .i64 j ∧ j ≤ l.length ∧ Hid (l.take j = m.take j) ∧ Ext W1 wq) (fun k _ => l.length - (iof k).toNat)
        case atStart => exact ⟨0, rfl, Nat.zero_le _, Lib.hid rfl, Ext.refl _⟩
        case round =>
          obtain ⟨j, rfl, hj, HJ, hxq⟩ := hrel
          rename World => wq
          have f1 : g1 < W1.heap.size := World.block_lt_of_cell? _ _ JD1.out
          have f2 : g2 < W1.heap.size := World.block_lt_of_cell? _ _ JD2.out
          have d1 := (hxq.cells.1 _ _ f1).trans JD1.out
          have d2 := (hxq.cells.1 _ _ f2).trans JD2.out
          have e1 : g1 < wq.heap.size := Nat.lt_of_lt_of_le f1 hxq.size
          have e2 : g2 < wq.heap.size := Nat.lt_of_lt_of_le f2 hxq.size
          clear f1 f2
          by_cases hjl : j < l.length
          · have hjm : j < m.length := by rw [← HLEN.out]; exact hjl
            obtain ⟨p1, rfl, q1, x1⟩ := str_at (hl.ext (HX1.out.trans hxq)) j hjl
            obtain ⟨p2, rfl, q2, x2⟩ := str_at (hm.ext (HX1.out.trans hxq)) j hjm
            have HST := Lib.hid (take_eq_step hjl hjm HJ.out)
            have HNE : Hid (l[j] ≠ m[j] → l ≠ m) := Lib.hid (fun h e => h (by subst e; rfl))
            have HXQ := Lib.hid hxq
            clear HJ hxq
            generalize l[j] = s1 at *
            generalize m[j] = s2 at *
            by_cases hs : s1 = s2
            · subst hs
              have HST2 := Lib.hid (HST.out rfl)
              clear HST HNE
              go_upto_region 11 with (fail)
              go_quiet (fail)
              go_wp2_with (fail)
              exact ⟨⟨j + 1, by simp, by omega, HST2, HXQ.out.drewN _⟩, by simp [iof]; omega⟩
            · have hs2 : ¬ s1.toList = s2.toList := fun e => hs (by rw [ByteArray.toList_eq, ByteArray.toList_eq] at e; exact Go.WideShapes.bytes_inj e)
              have hs3 : (s1.toList == s2.toList) = false := by simpa using hs2
              have HNE2 := Lib.hid (HNE.out hs)
              clear HST HNE hs
              go_upto_region 11 with (fail)
              go_quiet (fail)
              go_wp2_with (fail)
              go_ret
              exact ⟨by rw [HR.out, decide_eq_false HNE2.out]; rfl, (HX1.out.trans HXQ.out).drewN _⟩
          · obtain rfl : j = l.length := by omega
            have hlm : l = m := by
              have := HJ.out
              rw [List.take_length, HLEN.out, List.take_length] at this
              exact this
            have HLM := Lib.hid hlm
            have HXF := Lib.hid (HX1.out.trans hxq)
            clear hlm HJ hxq hjl
            obtain ⟨p1, q1⟩ : ∃ p1, a1 = p1 := ⟨_, rfl⟩
            go_wp2_with (fail)
            exact ⟨⟨1, by simp, by omega, Lib.hid (fun _ => HLM.out), HXF.out⟩, by simp [iof]⟩
      · have hlz : ¬ ((l.length : Int) = (m.length : Int)) := by omega
        go_upto_region 6 with (fail)
        go_quiet (fail)
        go_wp2_with (fail)
        go_ret
        exact ⟨by rw [HR.out, decide_eq_false (fun e => hlen (by rw [e]))]; rfl, HX.out.drewN _⟩
end Go.Proofs.Ytbeoihjfjkbfhaa
