/-
  The reference: contains, related. Conditions: lists and a setup lie in memory.
-/
import Derived.Test.YtlekdhhgjhakgaaJnE
import Derived.Deep.Upon
import Derived.Deep.AppendLies
import Derived.ArgAppend
namespace Go.Proofs.Ytlekdhhgjhakgaa
set_option linter.unusedVariables false
set_option linter.unusedSimpArgs false
open Go.RowKit
theorem contains_any (v : Value) (l : List Int) (x : Int) (w : World) (hl : IRd w v l) (hn : l.length ≤ 1000000) :
    Calls Try.prog 31 #[v, .int .i64 x] w fun e w' => e = .returned (.bool (decide (x ∈ l))) ∧ Ext w w' := by
  obtain ⟨A, cap, rfl, hlen, hrng, hcell⟩ := hl
  have HC := Lib.hid hcell
  clear hcell hrng
  go_enter Try.func31, Try.ntmps31
  go_upto_region 2 with (fail)
  go_loopw [5] (fun k wr => ∃ j : Nat, k = .int .i64 j ∧ j ≤ l.length ∧ Hid (x ∉ l.take j) ∧ Hid (Ext w wr)) (fun k _ => l.length - (iof k).toNat)
  case atStart => exact ⟨0, rfl, by omega, Lib.hid (by simp), Lib.hid (Ext.refl _)⟩
  case round =>
    obtain ⟨j, rfl, hj, HN, HX⟩ := hrel
    by_cases hjl : j < l.length
    · obtain ⟨b, off, rfl, hc⟩ := HC.out.resolve_left (by intro e; rw [e] at hjl; simp at hjl)
      have c0 := (HX.out.cells.1 _ _ (World.block_lt_of_cell? w _ (hc j hjl))).trans (hc j hjl)
      have HT : Hid (l.take (j + 1) = l.take j ++ [l[j]]) := Lib.hid (List.take_succ_eq_append_getElem hjl)
      have HM : Hid (l[j] ∈ l) := Lib.hid (List.getElem_mem hjl)
      clear hc
      generalize l[j] = y at *
      by_cases e : y = x
      · subst e
        go_wp2_with (fail)
        go_ret
        exact ⟨by rw [decide_eq_true HM.out]; rfl, HX.out⟩
      · have e2 : (y == x) = false := by simpa using e
        go_wp2_with (fail)
        exact ⟨⟨j + 1, by simp, by omega, Lib.hid (by rw [HT.out, List.mem_append, List.mem_singleton]; exact fun h => h.elim HN.out fun h => e h.symm), HX⟩, by simp [iof]; omega⟩
    · obtain rfl : j = l.length := by omega
      have HN2 := HN.out
      rw [List.take_length] at HN2
      go_wp2_with (fail)
      go_ret
      exact ⟨by rw [decide_eq_false HN2]; rfl, HX.out⟩
end Go.Proofs.Ytlekdhhgjhakgaa
