/-
  Whether Ids are missing in the table. Conditions: the map is the table; the slice holds the Ids.
-/
import Derived.Test.YthdhlocoiipbaaaFlI
namespace Go.Proofs.Ythdhlocoiipbaaa
set_option linter.unusedVariables false
set_option linter.unusedSimpArgs false
open Go.RowKit

/-- Whether an Id is not there. -/
def mis (xs : List It) (id : Int) : Bool := (fnd xs id).isNone

theorem It.good.shape {w : World} {x : It} (h : x.good w) : ∃ A c, x.fv = .slice A x.frm.length c := by
  obtain ⟨A, c, h1, -⟩ := h.2.2
  exact ⟨A, c, h1⟩
theorem Ms.good.shape {w : World} {x : Ms} (h : x.good w) : ∃ A c, x.iv = .slice A x.its.length c := by
  obtain ⟨A, c, h1, -⟩ := h.2.2.2
  exact ⟨A, c, h1⟩

set_option maxRecDepth 100000 in
theorem mis1_any (xs : List It) (b p : Nat) (id : Int) (w : World) (hp : w.cell? ⟨p, 0, none⟩ = some (.map (some b))) (hm : MI w b (tabl xs)) (hid : OkI id) (hxs : ∀ x ∈ xs, x.good w) :
    Calls Try.prog 43 #[.int .i64 id, .pointer (some ⟨p, 0, none⟩)] w fun e w' => e = .returned (.bool (mis xs id)) ∧ Ext w w' := by
  have hlk := tabl_look xs id
  have hrun := hm.look keI Try.underlying55 (z := .agg #[.int .i64 0, .int .i64 0, .slice none 0 0]) (by rfl) hid true
  unfold mis
  cases hf : fnd xs id with
  | none =>
    rw [hf] at hlk
    simp only [Option.map_none] at hlk
    rw [hlk] at hrun
    simp only [if_true, Option.getD_none, Option.isSome_none, encI] at hrun
    go_enter Try.func43, Try.ntmps43
    go_wp2_with (fail)
    go_ret
    exact ⟨rfl, Ext.alloc (Ext.refl _) _⟩
  | some y =>
    obtain ⟨A, c, hs⟩ := (hxs y (List.mem_of_find?_eq_some hf)).shape
    rw [hf] at hlk
    simp only [Option.map_some, It.v, hs] at hlk
    rw [hlk] at hrun
    simp only [if_true, Option.getD_some, Option.isSome_some, encI] at hrun
    go_enter Try.func43, Try.ntmps43
    go_wp2_with (fail)
    go_ret
    exact ⟨rfl, Ext.alloc (Ext.refl _) _⟩

theorem enters43 : ∀ args w, (callFunc 43 args).run Try.prog w = .ok (.enter 43 args) w := enters_of Try.func43 (by kernel_rfl) rfl

set_option maxRecDepth 100000 in
theorem missing_any (xs : List It) (b : Nat) (v : Value) (l : List Int) (w : World) (hm : MI w b (tabl xs)) (hl : IRd w v l) (hxs : ∀ x ∈ xs, x.good w) :
    Calls Try.prog 31 #[.map (some b), v] w fun e w' => e = .returned (.bool (l.any (mis xs))) ∧ Ext w w' := by
  have hx0 : Ext w (w.alloc (.cells #[.map (some b)] 55)) := Ext.alloc (Ext.refl _) _
  have hF : ∀ x ∈ l, ∀ w', Ext (w.alloc (.cells #[.map (some b)] 55)) w' → Calls Try.prog 43 (#[.int .i64 x] ++ #[.pointer (some ⟨w.heap.size, 0, none⟩)]) w' fun e w'' => e = .returned (.bool (mis xs x)) ∧ Ext w' w'' := by
    intro x hx w' h
    have hc := (Boxed.kept (Boxed.new w 55 (.map (some b))) ⟨h.os, h.tape, h.output, h.size, fun k hk _ => h.block k hk⟩ (row := none) (by simp)).cell
    obtain ⟨A, c, -, -, hr, -⟩ := hl
    exact mis1_any xs b _ x w' hc ((hm.ext hx0).ext h) (hr x hx) (fun y hy => ((hxs y hy).ext hx0).ext h)
  have hC := contains35 v l 43 #[.pointer (some ⟨w.heap.size, 0, none⟩)] (mis xs) _ (hl.ext hx0) hF enters43
  obtain ⟨A, c, rfl, -⟩ := hl
  go_enter Try.func31, Try.ntmps31
  go_wp2_with (go_at_call 35; (with_reducible refine hC.mono ?_); rintro e w1 ⟨rfl, hx⟩)
  go_ret
  exact ⟨rfl, hx0.trans hx⟩

set_option maxRecDepth 100000 in
theorem misI_any (xs : List It) (b p : Nat) (x : It) (w : World) (hp : w.cell? ⟨p, 0, none⟩ = some (.map (some b))) (hm : MI w b (tabl xs)) (hx : x.good w) (hxs : ∀ x ∈ xs, x.good w) :
    Calls Try.prog 30 #[x.v, .pointer (some ⟨p, 0, none⟩)] w fun e w' => e = .returned (.bool (x.frm.any (mis xs))) ∧ Ext w w' := by
  obtain ⟨A, c, hs⟩ := hx.shape
  have hpl : p < w.heap.size := World.block_lt_of_cell? w ⟨p, 0, none⟩ hp
  have hx0 : Ext w (w.alloc (.cells #[.int .i64 x.id, .int .i64 x.label, x.fv] 32)) := Ext.alloc (Ext.refl _) _
  have hC := missing_any xs b x.fv x.frm _ (hm.ext hx0) (hx.2.2.ext hx0) (fun y hy => (hxs y hy).ext hx0)
  rw [hs] at hC
  simp only [It.v, hs]
  go_enter Try.func30, Try.ntmps30
  go_wp2_with (go_at_call 31; (with_reducible refine hC.mono ?_); rintro e w1 ⟨rfl, hxx⟩)
  rw [hs] at hx0
  go_ret
  exact ⟨rfl, hx0.trans hxx⟩

set_option maxRecDepth 100000 in
theorem misM_any (xs : List It) (b p : Nat) (x : Ms) (w : World) (hp : w.cell? ⟨p, 0, none⟩ = some (.map (some b))) (hm : MI w b (tabl xs)) (hx : x.good w) (hxs : ∀ x ∈ xs, x.good w) :
    Calls Try.prog 33 #[x.v, .pointer (some ⟨p, 0, none⟩)] w fun e w' => e = .returned (.bool (x.its.any (mis xs))) ∧ Ext w w' := by
  obtain ⟨A, c, hs⟩ := hx.shape
  have hpl : p < w.heap.size := World.block_lt_of_cell? w ⟨p, 0, none⟩ hp
  have hx0 : Ext w (w.alloc (.cells #[.int .i64 x.src, .int .i64 x.dst, .int .i64 x.tm, x.iv] 48)) := Ext.alloc (Ext.refl _) _
  have hC := missing_any xs b x.iv x.its _ (hm.ext hx0) (hx.2.2.2.ext hx0) (fun y hy => (hxs y hy).ext hx0)
  rw [hs] at hC
  simp only [Ms.v, hs]
  go_enter Try.func33, Try.ntmps33
  go_wp2_with (go_at_call 31; (with_reducible refine hC.mono ?_); rintro e w1 ⟨rfl, hxx⟩)
  rw [hs] at hx0
  go_ret
  exact ⟨rfl, hx0.trans hxx⟩

theorem enters30 : ∀ args w, (callFunc 30 args).run Try.prog w = .ok (.enter 30 args) w := enters_of Try.func30 (by kernel_rfl) rfl
theorem enters33 : ∀ args w, (callFunc 33 args).run Try.prog w = .ok (.enter 33 args) w := enters_of Try.func33 (by kernel_rfl) rfl
theorem enters36 : ∀ args w, (callFunc 36 args).run Try.prog w = .ok (.enter 36 args) w := enters_of Try.func36 (by kernel_rfl) rfl

set_option maxRecDepth 100000 in
/-- Whether an Id has the label of prices, in the map of prices. -/
theorem price_any (b p : Nat) (m : List (Int × Value)) (f : Int → Bool) (id : Int) (w : World) (hp : w.cell? ⟨p, 0, none⟩ = some (.map (some b))) (hm : MI w b m) (hid : OkI id) (hf : (m.lookup id).getD (.bool false) = .bool (f id)) :
    Calls Try.prog 36 #[.int .i64 id, .pointer (some ⟨p, 0, none⟩)] w fun e w' => e = .returned (.bool (f id)) ∧ Ext w w' := by
  have hrun := hm.look keI Try.underlying51 (z := .bool false) (by rfl) hid false
  simp only [Bool.false_eq_true, if_false, encI, hf] at hrun
  go_enter Try.func36, Try.ntmps36
  go_wp2_with (fail)
  go_ret
  exact ⟨rfl, Ext.refl _⟩

end Go.Proofs.Ythdhlocoiipbaaa
