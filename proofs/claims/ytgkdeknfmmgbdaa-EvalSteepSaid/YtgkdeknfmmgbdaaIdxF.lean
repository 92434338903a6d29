/-
  slices.IndexFunc at the element types of package eval. Conditions: what the slice holds; what the function value answers, in every grown world.
-/
import Derived.Test.YtgkdeknfmmgbdaaRgn
namespace Go.Proofs.Ytgkdeknfmmgbdaa
set_option linter.unusedVariables false
set_option linter.unusedSimpArgs false
open Go.RowKit

/-- The first place at which p holds, or -1. -/
def idxFrom (p : Nat → Bool) (n : Nat) : Nat → Int
  | 0 => -1
  | f + 1 => if p (n - (f + 1)) then ((n - (f + 1) : Nat) : Int) else idxFrom p n f
def idxZ (p : Nat → Bool) (n : Nat) : Int := idxFrom p n n
theorem idxFrom_step {p : Nat → Bool} {n k : Nat} (hk : k < n) : idxFrom p n (n - k) = if p k then (k : Int) else idxFrom p n (n - (k + 1)) := by
  rw [show n - k = (n - (k + 1)) + 1 by omega, idxFrom, show n - (n - (k + 1) + 1) = k by omega]

set_option maxRecDepth 100000 in
set_option maxHeartbeats 1000000 in
theorem index96 (b o n c : Nat) (hn : n ≤ 1000000) (f : FuncId) (cap : Array Value) (e : Nat → Nat → Value) (p : Nat → Bool) (w : World)
    (hc0 : ∀ k, k < n → w.cell? ⟨b, o + k * 2, none⟩ = some (e k 0)) (hc1 : ∀ k, k < n → w.cell? ⟨b, o + k * 2 + 1, none⟩ = some (e k 1))
    (hF : ∀ k w', k < n → Ext w w' → Calls Try.prog f (#[.agg #[e k 0, e k 1]] ++ cap) w' fun e w'' => e = .returned (.bool (p k)) ∧ Ext w' w'')
    (hE : ∀ args w, (callFunc f args).run Try.prog w = .ok (.enter f args) w) :
    Calls Try.prog 96 #[.slice (some ⟨b, o, none⟩) n c, .func (.func f) #[] cap] w fun e w' => e = .returned (.int .i64 (idxZ p n)) ∧ Ext w w' := by
  have HF := Lib.hid hF
  have HC0 := Lib.hid hc0; have HC1 := Lib.hid hc1
  clear hF
  clear hc0 hc1
  go_enter Try.func96, Try.ntmps96
  go_wp2
  go_loopw [8] (fun i wr => ∃ k : Nat, k ≤ n ∧ i = .int .i64 k ∧ idxZ p n = idxFrom p n (n - k) ∧ Ext w wr) (fun i _ => n - (intOf i).toNat)
  case atStart => exact ⟨0, Nat.zero_le _, rfl, rfl, Ext.refl _⟩
  case round =>
    obtain ⟨k, hk, rfl, hi, hx⟩ := hrel
    have Hi := Lib.hid hi; clear hi
    rcases Nat.lt_or_ge k n with hlt | hge
    · have hbl : b < w.heap.size := World.block_lt_of_cell? w _ (HC0.out k hlt)
      have h0 := (hx.cells.1 b (o + k * 2) hbl).trans (HC0.out k hlt)
      have h1 := (hx.cells.1 b (o + k * 2 + 1) hbl).trans (HC1.out k hlt)
      have HFk := Lib.hid (HF.out k wr hlt hx)
      have Hx := Lib.hid hx
      clear hx
      cases hp : p k
      · rw [hp] at HFk
        have Hp := Lib.hid hp; clear hp
        go_wp2_with (with_reducible refine HFk.out.mono ?_; rintro e' w1 ⟨rfl, hb⟩)
        go_roundw
        case rel => exact ⟨k + 1, by omega, by go_num, by rw [Hi.out, idxFrom_step hlt, Hp.out]; rfl, Hx.out.trans hb⟩
        case measure => simp [intOf]; omega
      · rw [hp] at HFk
        have Hp := Lib.hid hp; clear hp
        go_wp2_with (with_reducible refine HFk.out.mono ?_; rintro e' w1 ⟨rfl, hb⟩)
        go_ret
        exact ⟨by rw [Hi.out, idxFrom_step hlt, Hp.out]; rfl, Hx.out.trans hb⟩
    · have hkn : k = n := by omega
      subst hkn
      go_wp2
      go_ret
      exact ⟨by rw [Hi.out, Nat.sub_self]; rfl, hx⟩

theorem index96_nil (A : Option Addr) (c : Nat) (f : Value) (w : World) :
    Calls Try.prog 96 #[.slice A 0 c, f] w fun e w' => e = .returned (.int .i64 (-1)) ∧ Ext w w' := by
  go_enter Try.func96, Try.ntmps96
  go_wp2
  refine wp_loop_rounds 1 ?_
  repeat any_goals (rw [rounds_succ]; go_wp2)
  go_ret
  exact ⟨rfl, Ext.refl _⟩

set_option maxRecDepth 100000 in
set_option maxHeartbeats 1000000 in
theorem index70 (b o n c : Nat) (hn : n ≤ 1000000) (f : FuncId) (cap : Array Value) (e : Nat → Nat → Value) (p : Nat → Bool) (w : World)
    (hc0 : ∀ k, k < n → w.cell? ⟨b, o + k * 2, none⟩ = some (e k 0)) (hc1 : ∀ k, k < n → w.cell? ⟨b, o + k * 2 + 1, none⟩ = some (e k 1))
    (hF : ∀ k w', k < n → Ext w w' → Calls Try.prog f (#[.agg #[e k 0, e k 1]] ++ cap) w' fun e w'' => e = .returned (.bool (p k)) ∧ Ext w' w'')
    (hE : ∀ args w, (callFunc f args).run Try.prog w = .ok (.enter f args) w) :
    Calls Try.prog 70 #[.slice (some ⟨b, o, none⟩) n c, .func (.func f) #[] cap] w fun e w' => e = .returned (.int .i64 (idxZ p n)) ∧ Ext w w' := by
  have HF := Lib.hid hF
  have HC0 := Lib.hid hc0; have HC1 := Lib.hid hc1
  clear hF
  clear hc0 hc1
  go_enter Try.func70, Try.ntmps70
  go_wp2
  go_loopw [8] (fun i wr => ∃ k : Nat, k ≤ n ∧ i = .int .i64 k ∧ idxZ p n = idxFrom p n (n - k) ∧ Ext w wr) (fun i _ => n - (intOf i).toNat)
  case atStart => exact ⟨0, Nat.zero_le _, rfl, rfl, Ext.refl _⟩
  case round =>
    obtain ⟨k, hk, rfl, hi, hx⟩ := hrel
    have Hi := Lib.hid hi; clear hi
    rcases Nat.lt_or_ge k n with hlt | hge
    · have hbl : b < w.heap.size := World.block_lt_of_cell? w _ (HC0.out k hlt)
      have h0 := (hx.cells.1 b (o + k * 2) hbl).trans (HC0.out k hlt)
      have h1 := (hx.cells.1 b (o + k * 2 + 1) hbl).trans (HC1.out k hlt)
      have HFk := Lib.hid (HF.out k wr hlt hx)
      have Hx := Lib.hid hx
      clear hx
      cases hp : p k
      · rw [hp] at HFk
        have Hp := Lib.hid hp; clear hp
        go_wp2_with (with_reducible refine HFk.out.mono ?_; rintro e' w1 ⟨rfl, hb⟩)
        go_roundw
        case rel => exact ⟨k + 1, by omega, by go_num, by rw [Hi.out, idxFrom_step hlt, Hp.out]; rfl, Hx.out.trans hb⟩
        case measure => simp [intOf]; omega
      · rw [hp] at HFk
        have Hp := Lib.hid hp; clear hp
        go_wp2_with (with_reducible refine HFk.out.mono ?_; rintro e' w1 ⟨rfl, hb⟩)
        go_ret
        exact ⟨by rw [Hi.out, idxFrom_step hlt, Hp.out]; rfl, Hx.out.trans hb⟩
    · have hkn : k = n := by omega
      subst hkn
      go_wp2
      go_ret
      exact ⟨by rw [Hi.out, Nat.sub_self]; rfl, hx⟩

theorem index70_nil (A : Option Addr) (c : Nat) (f : Value) (w : World) :
    Calls Try.prog 70 #[.slice A 0 c, f] w fun e w' => e = .returned (.int .i64 (-1)) ∧ Ext w w' := by
  go_enter Try.func70, Try.ntmps70
  go_wp2
  refine wp_loop_rounds 1 ?_
  repeat any_goals (rw [rounds_succ]; go_wp2)
  go_ret
  exact ⟨rfl, Ext.refl _⟩

set_option maxRecDepth 100000 in
set_option maxHeartbeats 1000000 in
theorem index59 (b o n c : Nat) (hn : n ≤ 1000000) (f : FuncId) (cap : Array Value) (e : Nat → Nat → Value) (p : Nat → Bool) (w : World)
    (hc0 : ∀ k, k < n → w.cell? ⟨b, o + k * 2, none⟩ = some (e k 0)) (hc1 : ∀ k, k < n → w.cell? ⟨b, o + k * 2 + 1, none⟩ = some (e k 1))
    (hF : ∀ k w', k < n → Ext w w' → Calls Try.prog f (#[.agg #[e k 0, e k 1]] ++ cap) w' fun e w'' => e = .returned (.bool (p k)) ∧ Ext w' w'')
    (hE : ∀ args w, (callFunc f args).run Try.prog w = .ok (.enter f args) w) :
    Calls Try.prog 59 #[.slice (some ⟨b, o, none⟩) n c, .func (.func f) #[] cap] w fun e w' => e = .returned (.int .i64 (idxZ p n)) ∧ Ext w w' := by
  have HF := Lib.hid hF
  have HC0 := Lib.hid hc0; have HC1 := Lib.hid hc1
  clear hF
  clear hc0 hc1
  go_enter Try.func59, Try.ntmps59
  go_wp2
  go_loopw [8] (fun i wr => ∃ k : Nat, k ≤ n ∧ i = .int .i64 k ∧ idxZ p n = idxFrom p n (n - k) ∧ Ext w wr) (fun i _ => n - (intOf i).toNat)
  case atStart => exact ⟨0, Nat.zero_le _, rfl, rfl, Ext.refl _⟩
  case round =>
    obtain ⟨k, hk, rfl, hi, hx⟩ := hrel
    have Hi := Lib.hid hi; clear hi
    rcases Nat.lt_or_ge k n with hlt | hge
    · have hbl : b < w.heap.size := World.block_lt_of_cell? w _ (HC0.out k hlt)
      have h0 := (hx.cells.1 b (o + k * 2) hbl).trans (HC0.out k hlt)
      have h1 := (hx.cells.1 b (o + k * 2 + 1) hbl).trans (HC1.out k hlt)
      have HFk := Lib.hid (HF.out k wr hlt hx)
      have Hx := Lib.hid hx
      clear hx
      cases hp : p k
      · rw [hp] at HFk
        have Hp := Lib.hid hp; clear hp
        go_wp2_with (with_reducible refine HFk.out.mono ?_; rintro e' w1 ⟨rfl, hb⟩)
        go_roundw
        case rel => exact ⟨k + 1, by omega, by go_num, by rw [Hi.out, idxFrom_step hlt, Hp.out]; rfl, Hx.out.trans hb⟩
        case measure => simp [intOf]; omega
      · rw [hp] at HFk
        have Hp := Lib.hid hp; clear hp
        go_wp2_with (with_reducible refine HFk.out.mono ?_; rintro e' w1 ⟨rfl, hb⟩)
        go_ret
        exact ⟨by rw [Hi.out, idxFrom_step hlt, Hp.out]; rfl, Hx.out.trans hb⟩
    · have hkn : k = n := by omega
      subst hkn
      go_wp2
      go_ret
      exact ⟨by rw [Hi.out, Nat.sub_self]; rfl, hx⟩

theorem index59_nil (A : Option Addr) (c : Nat) (f : Value) (w : World) :
    Calls Try.prog 59 #[.slice A 0 c, f] w fun e w' => e = .returned (.int .i64 (-1)) ∧ Ext w w' := by
  go_enter Try.func59, Try.ntmps59
  go_wp2
  refine wp_loop_rounds 1 ?_
  repeat any_goals (rw [rounds_succ]; go_wp2)
  go_ret
  exact ⟨rfl, Ext.refl _⟩

set_option maxRecDepth 100000 in
set_option maxHeartbeats 1000000 in
theorem index86 (b o n c : Nat) (hn : n ≤ 1000000) (f : FuncId) (cap : Array Value) (e : Nat → Nat → Value) (p : Nat → Bool) (w : World)
    (hc0 : ∀ k, k < n → w.cell? ⟨b, o + k * 5, none⟩ = some (e k 0)) (hc1 : ∀ k, k < n → w.cell? ⟨b, o + k * 5 + 1, none⟩ = some (e k 1)) (hc2 : ∀ k, k < n → w.cell? ⟨b, o + k * 5 + 2, none⟩ = some (e k 2)) (hc3 : ∀ k, k < n → w.cell? ⟨b, o + k * 5 + 3, none⟩ = some (e k 3)) (hc4 : ∀ k, k < n → w.cell? ⟨b, o + k * 5 + 4, none⟩ = some (e k 4))
    (hF : ∀ k w', k < n → Ext w w' → Calls Try.prog f (#[.agg #[e k 0, e k 1, e k 2, e k 3, e k 4]] ++ cap) w' fun e w'' => e = .returned (.bool (p k)) ∧ Ext w' w'')
    (hE : ∀ args w, (callFunc f args).run Try.prog w = .ok (.enter f args) w) :
    Calls Try.prog 86 #[.slice (some ⟨b, o, none⟩) n c, .func (.func f) #[] cap] w fun e w' => e = .returned (.int .i64 (idxZ p n)) ∧ Ext w w' := by
  have HF := Lib.hid hF
  have HC0 := Lib.hid hc0; have HC1 := Lib.hid hc1; have HC2 := Lib.hid hc2; have HC3 := Lib.hid hc3; have HC4 := Lib.hid hc4
  clear hF
  clear hc0 hc1 hc2 hc3 hc4
  go_enter Try.func86, Try.ntmps86
  go_wp2
  go_loopw [8] (fun i wr => ∃ k : Nat, k ≤ n ∧ i = .int .i64 k ∧ idxZ p n = idxFrom p n (n - k) ∧ Ext w wr) (fun i _ => n - (intOf i).toNat)
  case atStart => exact ⟨0, Nat.zero_le _, rfl, rfl, Ext.refl _⟩
  case round =>
    obtain ⟨k, hk, rfl, hi, hx⟩ := hrel
    have Hi := Lib.hid hi; clear hi
    rcases Nat.lt_or_ge k n with hlt | hge
    · have hbl : b < w.heap.size := World.block_lt_of_cell? w _ (HC0.out k hlt)
      have h0 := (hx.cells.1 b (o + k * 5) hbl).trans (HC0.out k hlt)
      have h1 := (hx.cells.1 b (o + k * 5 + 1) hbl).trans (HC1.out k hlt)
      have h2 := (hx.cells.1 b (o + k * 5 + 2) hbl).trans (HC2.out k hlt)
      have h3 := (hx.cells.1 b (o + k * 5 + 3) hbl).trans (HC3.out k hlt)
      have h4 := (hx.cells.1 b (o + k * 5 + 4) hbl).trans (HC4.out k hlt)
      have HFk := Lib.hid (HF.out k wr hlt hx)
      have Hx := Lib.hid hx
      clear hx
      cases hp : p k
      · rw [hp] at HFk
        have Hp := Lib.hid hp; clear hp
        go_wp2_with (with_reducible refine HFk.out.mono ?_; rintro e' w1 ⟨rfl, hb⟩)
        go_roundw
        case rel => exact ⟨k + 1, by omega, by go_num, by rw [Hi.out, idxFrom_step hlt, Hp.out]; rfl, Hx.out.trans hb⟩
        case measure => simp [intOf]; omega
      · rw [hp] at HFk
        have Hp := Lib.hid hp; clear hp
        go_wp2_with (with_reducible refine HFk.out.mono ?_; rintro e' w1 ⟨rfl, hb⟩)
        go_ret
        exact ⟨by rw [Hi.out, idxFrom_step hlt, Hp.out]; rfl, Hx.out.trans hb⟩
    · have hkn : k = n := by omega
      subst hkn
      go_wp2
      go_ret
      exact ⟨by rw [Hi.out, Nat.sub_self]; rfl, hx⟩

theorem index86_nil (A : Option Addr) (c : Nat) (f : Value) (w : World) :
    Calls Try.prog 86 #[.slice A 0 c, f] w fun e w' => e = .returned (.int .i64 (-1)) ∧ Ext w w' := by
  go_enter Try.func86, Try.ntmps86
  go_wp2
  refine wp_loop_rounds 1 ?_
  repeat any_goals (rw [rounds_succ]; go_wp2)
  go_ret
  exact ⟨rfl, Ext.refl _⟩

end Go.Proofs.Ytgkdeknfmmgbdaa
