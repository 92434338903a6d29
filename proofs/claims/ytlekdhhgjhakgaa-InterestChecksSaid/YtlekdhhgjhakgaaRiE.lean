/-
  The reference's Role. Conditions: a setup lies in memory.
-/
import Derived.Test.YtlekdhhgjhakgaaRiA
namespace Go.Proofs.Ytlekdhhgjhakgaa
set_option linter.unusedVariables false
set_option linter.unusedSimpArgs false
open Go.RowKit
theorem role_first {ps : List Pe} {j : Nat} {i : Int} (hj : j < ps.length) (hn : ∀ p ∈ ps.take j, p.id ≠ i) (h : ps[j].id = i) : roleF ps i = ps[j].role := by
  unfold roleF
  have e : ps.find? (fun p => p.id == i) = some ps[j] := by
    rw [List.find?_eq_some_iff_getElem]
    refine ⟨by simp [h], j, hj, rfl, fun k hk => ?_⟩
    have := hn ps[k] (List.mem_take_iff_getElem.2 ⟨k, by omega, rfl⟩)
    simpa using this
  rw [e]
theorem role_none {ps : List Pe} {i : Int} (hn : ∀ p ∈ ps, p.id ≠ i) : roleF ps i = 0 := by
  unfold roleF
  rw [List.find?_eq_none.2 fun p hp => by simpa using hn p hp]
set_option maxRecDepth 100000 in
set_option maxHeartbeats 8000000 in
theorem Role_any (c0 c1 c2 c3 c4 c5 : Value) (s : Su) (i : Int) (w : World) (h : SuV w c0 c1 c2 c3 c4 c5 s) :
    Calls Try.prog 38 #[.agg #[c0, c1, c2, c3, c4, c5], .int .i64 i] w fun e w' => e = .returned (.int .i64 (roleF s.ps i)) ∧ Ext w w' := by
  obtain ⟨hps, hhs, hrs, ⟨q1, rfl⟩, ⟨q4, rfl⟩, ⟨q5, rfl⟩, hok⟩ := h
  obtain ⟨b0, n0, rfl⟩ := hps.form
  obtain ⟨b2, n2, rfl⟩ := hhs.form
  obtain ⟨b3, n3, rfl⟩ := hrs.form
  have HPS := Lib.hid hps
  have hnp := hok.np
  clear hps hhs hrs hok
  go_enter Try.func38, Try.ntmps38
  go_upto_region 1 with (fail)
  have hx1 : Ext w (w.alloc (.cells #[.slice b0 s.ps.length n0, .int .i64 q1, .slice b2 s.hs.length n2, .slice b3 s.rs.length n3, .int .i64 q4, .int .i64 q5] 28)) := Ext.alloc (Ext.refl _) _
  have hb1 := alloc_at w (.cells #[.slice b0 s.ps.length n0, .int .i64 q1, .slice b2 s.hs.length n2, .slice b3 s.rs.length n3, .int .i64 q4, .int .i64 q5] 28)
  obtain ⟨D, hD⟩ : ∃ D, D = w.heap.size := ⟨_, rfl⟩
  rw [← hD] at hb1 ⊢
  clear hD
  generalize w.alloc (.cells #[.slice b0 s.ps.length n0, .int .i64 q1, .slice b2 s.hs.length n2, .slice b3 s.rs.length n3, .int .i64 q4, .int .i64 q5] 28) = W1 at *
  have HX1 := Lib.hid hx1; have HB1 := Lib.hid hb1
  clear hx1 hb1
  go_upto_region 2 with (fail)
  go_loopw [5] (fun k wr => ∃ j : Nat, k = .int .i64 j ∧ j ≤ s.ps.length ∧ Hid (∀ p ∈ s.ps.take j, p.id ≠ i) ∧ Hid (Ext W1 wr)) (fun k _ => s.ps.length - (iof k).toNat)
  case atStart => exact ⟨0, rfl, by omega, Lib.hid (by simp), Lib.hid (Ext.refl _)⟩
  case round =>
    obtain ⟨j, rfl, hj, HN, HX⟩ := hrel
    have g0 : wr.cell? ⟨D, 0, none⟩ = some (.slice b0 s.ps.length n0) := cell_of_row wr D 0 _ _ _ ((HX.out.block _ (Rg.lt_of_heap HB1.out)).trans HB1.out)
    by_cases hjl : j < s.ps.length
    · obtain ⟨g, rfl, hgl, d0, d1, d2⟩ := pe_at (HPS.out.ext (HX1.out.trans HX.out)) j hjl
      have HRF : Hid (s.ps[j].id = i → roleF s.ps i = s.ps[j].role) := Lib.hid (role_first hjl HN.out)
      have HT : Hid (s.ps.take (j + 1) = s.ps.take j ++ [s.ps[j]]) := Lib.hid (List.take_succ_eq_append_getElem hjl)
      generalize s.ps[j] = r at *
      obtain ⟨ri, rr, rp⟩ := r
      simp only at d0 d1 d2
      by_cases e : ri = i
      · subst e
        go_wp2_with (fail)
        go_ret
        exact ⟨by rw [HRF.out trivial]; rfl, HX1.out.trans HX.out⟩
      · have e2 : (ri == i) = false := by simpa using e
        go_wp2_with (fail)
        exact ⟨⟨j + 1, by simp, by omega, Lib.hid (by
          rw [HT.out]
          intro p hp
          rcases List.mem_append.1 hp with hp | hp
          · exact HN.out p hp
          · rw [List.mem_singleton] at hp
            subst hp
            exact e), HX⟩, by simp [iof]; omega⟩
    · obtain rfl : j = s.ps.length := by omega
      have HR0 : Hid (roleF s.ps i = 0) := Lib.hid (role_none (by have := HN.out; rwa [List.take_length] at this))
      go_wp2_with (fail)
      go_ret
      exact ⟨by rw [HR0.out]; rfl, HX1.out.trans HX.out⟩
end Go.Proofs.Ytlekdhhgjhakgaa
