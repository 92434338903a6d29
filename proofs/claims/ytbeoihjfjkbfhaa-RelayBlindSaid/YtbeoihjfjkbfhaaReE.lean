/-
  take: the questions that are due leave the map. Condition: what the map holds; what 'due' answers.
-/
import Derived.Test.YtbeoihjfjkbfhaaRgO
namespace Go.Proofs.Ytbeoihjfjkbfhaa
set_option linter.unusedVariables false
set_option linter.unusedSimpArgs false
open Go.RowKit
/-- The function f with cap answers due. -/
structure DueF (f : Nat) (cap : Array Value) (due : Int → Bool) (w : World) : Prop where
  ent : ∀ args w, (callFunc f args).run Try.prog w = .ok (.enter f args) w
  run : ∀ z wz, Ext w wz → Calls Try.prog f (#[.int .i64 z] ++ cap) wz fun e w' => e = .returned (.bool (due z)) ∧ Ext wz w'
theorem DueF.ext {f : Nat} {cap : Array Value} {due : Int → Bool} {w w' : World} (h : DueF f cap due w) (x : Ext w w') : DueF f cap due w' := ⟨h.ent, fun z wz hz => h.run z wz (x.trans hz)⟩
theorem due_all (w : World) : DueF 32 #[] (fun _ => true) w := by
  refine ⟨enters_of Try.func32 (by kernel_rfl) rfl, fun z wz hz => ?_⟩
  change Calls Try.prog 32 #[.int .i64 z] wz _
  go_enter Try.func32, Try.ntmps32
  go_wp2
  go_ret
  exact ⟨rfl, Ext.refl _⟩
theorem due_before (c : Nat) (now : Int) (w : World) (hc : w.cell? ⟨c, 0, none⟩ = some (.int .i64 now)) : DueF 29 #[.pointer (some ⟨c, 0, none⟩)] (fun z => decide (z < now)) w := by
  refine ⟨enters_of Try.func29 (by kernel_rfl) rfl, fun z wz hz => ?_⟩
  change Calls Try.prog 29 #[.int .i64 z, .pointer (some ⟨c, 0, none⟩)] wz _
  have c0 := (hz.cells.1 _ _ (World.block_lt_of_cell? w _ hc)).trans hc
  clear hc hz
  go_enter Try.func29, Try.ntmps29
  go_wp2
  go_ret
  exact ⟨rfl, Ext.refl _⟩
theorem give1_any {f : Nat} {cap : Array Value} {due : Int → Bool} {w : World} (h : DueF f cap due w) (bx : Nat) (hb : w.cell? ⟨bx, 0, none⟩ = some (.func (.func f) #[] cap)) (q : Qn) (z : Int) (wz : World) (hz : Ext w wz) :
    Calls Try.prog 35 #[.agg #[.int .i64 q.who, .string q.text], .int .i64 z, .pointer (some ⟨bx, 0, none⟩)] wz fun e w' => e = .returned (.bool (due z)) ∧ Ext wz w' := by
  have hbl := World.block_lt_of_cell? w _ hb
  have hx1 := Ext.alloc (Ext.refl wz) (.cells #[.int .i64 q.who, .string q.text] 66)
  have c0 := ((hz.trans hx1).cells.1 _ _ hbl).trans hb
  have hR := h.run z _ (hz.trans hx1)
  have hE := h.ent
  clear hb h hz
  go_enter Try.func35, Try.ntmps35
  go_wp2_with (with_reducible refine hR.mono ?_; rintro e' w1 ⟨rfl, hx2⟩)
  go_ret
  exact ⟨rfl, hx1.trans hx2⟩
end Go.Proofs.Ytbeoihjfjkbfhaa
