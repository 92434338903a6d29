/-
  Bidders out of numbers. Conditions: the numbers lie in memory.
-/
import Derived.Test.YtlekdhhgjhakgaaMkA
import Derived.Test.YtlekdhhgjhakgaaRiA
namespace Go.Proofs.Ytlekdhhgjhakgaa
set_option linter.unusedVariables false
set_option linter.unusedSimpArgs false
open Go.RowKit
/-- Bidders made. -/
structure BdL (l : List Int) (n : Nat) : Prop where
  len : l.length ≤ n
  bd : ∀ z ∈ l, 11 ≤ z ∧ z ≤ 16
  nd : l.Nodup
theorem BdL.ok {l : List Int} {n : Nat} (h : BdL l n) : ∀ z ∈ l, OkI z := fun z hz => by
  obtain ⟨h1, h2⟩ := h.bd z hz
  exact okI_small ⟨by omega, by omega⟩
set_option maxRecDepth 100000 in
set_option maxHeartbeats 8000000 in
theorem Bidders_any (v : Value) (ns : List Int) (W : World) (h : IRd W v ns) :
    Calls Try.prog 18 #[v] W fun e w' => ∃ v' l, e = .returned v' ∧ w'.ownsRow W.heap.size 3 1 v' l.length (l.flatMap celI) ∧ Ext W w' ∧ BdL l 5 := by
  obtain ⟨A, c, hv, hl, hok, hcl⟩ := id h
  subst hv
  have HOK := Lib.hid hok; have HCL := Lib.hid hcl
  clear h hok hcl
  go_enter Try.func18, Try.ntmps18
  go_upto_region 3 with (fail)
  go_loopw [3, 4] (fun bv iv wr => ∃ (i : Nat) (l : List Int), iv = .int .i64 i ∧ i ≤ 5 ∧ Hid (BdL l i) ∧ Hid (wr.ownsRow W.heap.size 3 1 bv l.length (l.flatMap celI)) ∧ Hid (Ext W wr)) (fun _ iv _ => 5 - (iof iv).toNat)
  case atStart => exact ⟨0, [], rfl, by omega, Lib.hid ⟨by simp, by simp, List.nodup_nil⟩, Lib.hid ⟨rfl, .inl ⟨rfl, rfl⟩⟩, Lib.hid (Ext.refl _)⟩
  case round =>
    obtain ⟨i, l, rfl, hi, HB, HR, HX⟩ := hrel
    obtain ⟨bA, bc, rfl⟩ := row_formG HR.out
    by_cases hin : i < ns.length
    · by_cases hi5 : i < 5
      · obtain ⟨b, off, rfl, hc⟩ := HCL.out.resolve_left (by intro e; rw [e] at hin; simp at hin)
        have c0 := (HX.out.cells.1 _ _ (World.block_lt_of_cell? W _ (hc i hin))).trans (hc i hin)
        have HM := Lib.hid (Mod_any ns[i] 6 (by decide) (by decide) (HOK.out _ (List.getElem_mem hin)) wr)
        have hmb := modZ_bd ns[i] (show (0 : Int) < 6 by decide)
        clear hc
        generalize modZ ns[i] 6 = q at *
        generalize ns[i] = z at *
        have HIR : Hid (IRd wr (.slice bA l.length bc) l) := Lib.hid (ird_row HR.out HB.out.ok (by have := HB.out.len; omega))
        have HCN := Lib.hid (contains_any _ l (11 + q) wr HIR.out (by have := HB.out.len; omega))
        go_upto_region 6 with (go_at_call 17; (with_reducible refine HM.out.mono ?_); rintro e w1 ⟨rfl, hw1⟩; subst hw1)
        by_cases hmem : (11 + q) ∈ l
        · rw [decide_eq_true hmem] at HCN
          clear hmem
          go_wp2_with (go_at_call 31; (with_reducible refine HCN.out.mono ?_); rintro e w2 ⟨rfl, hx2⟩)
          exact ⟨⟨i + 1, l, by simp, by omega, Lib.hid ⟨by have := HB.out.len; omega, HB.out.bd, HB.out.nd⟩, Lib.hid (row_ext HR.out hx2), Lib.hid (HX.out.trans hx2)⟩, by simp [iof]; omega⟩
        · rw [decide_eq_false hmem] at HCN
          have HNM := Lib.hid hmem
          clear hmem
          have hel : l.length < 1000000 := by have := HB.out.len; omega
          go_upto_region 7 with (go_at_call 31; (with_reducible refine HCN.out.mono ?_); rintro e w2 ⟨rfl, hx2⟩)
          have hxa : Ext wr (w2.alloc (.cells #[.int .i64 (11 + q)] 3)) := hx2.trans (Ext.alloc (Ext.refl _) _)
          have HR1 := Lib.hid (row_ext HR.out hxa); have HX1 := Lib.hid (HX.out.trans hxa)
          have hsz : W.heap.size ≤ (w2.alloc (.cells #[.int .i64 (11 + q)] 3)).heap.size := HX1.out.size
          clear hxa hx2
          go_wp2_with (at_builtin; (refine append_g (cs := celI) (z := .int .i64 0) 22 3 8 Try.underlying22 (by kernel_rfl) (by rfl) (by decide) (by decide) rfl (.tmp 26) (.tmp 28) rfl W.heap.size (.slice bA l.length bc) l (by rfl) HR1.out w2.heap.size (11 + q) (celI_len _) (by rfl) (alloc_at w2 _) hel hsz ?_; intro g7 cap7 w7 hr7 hg7 hat7; have HX7 := Lib.hid (row_grown HX1.out HR1.out (Nat.le_refl _) hg7); have HR7 := Lib.hid hr7; clear hr7 hg7 hat7 HR1 HX1))
          exact ⟨⟨i + 1, l ++ [11 + q], by simp, by omega, Lib.hid ⟨by have := HB.out.len; simp; omega, fun z hz => by
            rcases List.mem_append.1 hz with hz | hz
            · exact HB.out.bd z hz
            · rw [List.mem_singleton] at hz
              omega, by
            rw [List.nodup_append]
            exact ⟨HB.out.nd, by simp, fun a ha b hb => by
              rw [List.mem_singleton] at hb
              subst hb
              exact fun e => HNM.out (e ▸ ha)⟩⟩, HR7, HX7⟩, by simp [iof]; omega⟩
      · obtain rfl : i = 5 := by omega
        have hi5' : ¬ (5 : Int) < 5 := by omega
        go_wp2_with (fail)
        go_ret
        exact ⟨_, rfl, l, HR.out, HX.out, HB.out⟩
    · have HB5 : Hid (BdL l 5) := Lib.hid ⟨by have := HB.out.len; omega, HB.out.bd, HB.out.nd⟩
      go_wp2_with (fail)
      go_ret
      exact ⟨_, l, rfl, HR.out, HX.out, HB5.out⟩
end Go.Proofs.Ytlekdhhgjhakgaa
