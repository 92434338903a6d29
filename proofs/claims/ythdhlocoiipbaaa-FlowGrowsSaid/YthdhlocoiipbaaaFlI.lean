/-
  slices.ContainsFunc at ints, items and messages. Conditions: what the slice holds; what the function value answers, in every grown world.
-/
import Derived.Test.YthdhlocoiipbaaaFlL
namespace Go.Proofs.Ythdhlocoiipbaaa
set_option linter.unusedVariables false
set_option linter.unusedSimpArgs false
open Go.RowKit

theorem any_drop {α : Type} {l : List α} {k : Nat} (hk : k < l.length) (p : α → Bool) : (l.drop k).any p = (p l[k] || (l.drop (k + 1)).any p) := by
  rw [List.drop_eq_getElem_cons hk, List.any_cons]

set_option maxRecDepth 100000 in
set_option maxHeartbeats 1000000 in
theorem index46 (v : Value) (l : List Int) (f : FuncId) (cap : Array Value) (p : Int → Bool) (w : World) (hl : IRd w v l)
    (hF : ∀ x ∈ l, ∀ w', Ext w w' → Calls Try.prog f (#[.int .i64 x] ++ cap) w' fun e w'' => e = .returned (.bool (p x)) ∧ Ext w' w'')
    (hE : ∀ args w, (callFunc f args).run Try.prog w = .ok (.enter f args) w) :
    Calls Try.prog 46 #[v, .func (.func f) #[] cap] w fun e w' => ∃ z : Int, e = .returned (.int .i64 z) ∧ (0 ≤ z ↔ l.any p = true) ∧ Ext w w' := by
  obtain ⟨A, c, rfl, hlen, -, hcell⟩ := hl
  go_enter Try.func46, Try.ntmps46
  go_wp2_with (fail)
  go_loopw [8] (fun i wr => ∃ k : Nat, k ≤ l.length ∧ i = .int .i64 k ∧ l.any p = (l.drop k).any p ∧ Ext w wr) (fun i _ => l.length - (iof i).toNat)
  case atStart => exact ⟨0, Nat.zero_le _, rfl, rfl, Ext.refl _⟩
  case round =>
    obtain ⟨k, hk, rfl, hi, hx⟩ := hrel
    by_cases hlt : k < l.length
    · obtain ⟨b, off, rfl, hc⟩ := hcell.resolve_left (by intro e; rw [e] at hlt; simp at hlt)
      have c0 := (hx.cells.1 _ _ (World.block_lt_of_cell? w _ (hc k hlt))).trans (hc k hlt)
      have HF := hF l[k] (List.getElem_mem _) wr hx
      
      have hs := any_drop hlt p
      have Hi := Lib.hid hi; clear hi
      have Hs := Lib.hid hs; clear hs
      cases hp : p l[k]
      · rw [hp] at HF
        have Hp := Lib.hid hp; clear hp
        go_wp2_with (with_reducible refine HF.mono ?_; rintro e' w1 ⟨rfl, hb⟩)
        go_roundw
        case rel => exact ⟨k + 1, by omega, by go_num, by rw [Hi.out, Hs.out, Hp.out]; rfl, hx.trans hb⟩
        case measure => simp [iof]; omega
      · rw [hp] at HF
        have Hp := Lib.hid hp; clear hp
        go_wp2_with (with_reducible refine HF.mono ?_; rintro e' w1 ⟨rfl, hb⟩)
        go_ret
        exact ⟨_, rfl, ⟨fun _ => by rw [Hi.out, Hs.out, Hp.out]; rfl, fun _ => by omega⟩, hx.trans hb⟩
    · have hkn : k = l.length := by omega
      subst hkn
      go_wp2_with (fail)
      go_ret
      exact ⟨-1, rfl, ⟨fun h => by omega, fun h => by rw [hi, List.drop_length] at h; cases h⟩, hx⟩

set_option maxRecDepth 100000 in
theorem contains35 (v : Value) (l : List Int) (f : FuncId) (cap : Array Value) (p : Int → Bool) (w : World) (hl : IRd w v l)
    (hF : ∀ x ∈ l, ∀ w', Ext w w' → Calls Try.prog f (#[.int .i64 x] ++ cap) w' fun e w'' => e = .returned (.bool (p x)) ∧ Ext w' w'')
    (hE : ∀ args w, (callFunc f args).run Try.prog w = .ok (.enter f args) w) :
    Calls Try.prog 35 #[v, .func (.func f) #[] cap] w fun e w' => e = .returned (.bool (l.any p)) ∧ Ext w w' := by
  go_enter Try.func35, Try.ntmps35
  go_wp2_with (go_at_call 46; (with_reducible refine (index46 v l f cap p w hl hF hE).mono ?_); rintro e w1 ⟨z, rfl, hz, hx⟩; have Hz := Lib.hid hz; clear hz)
  go_ret
  have ht : decide (0 ≤ z) = l.any p := by rw [Bool.eq_iff_iff, decide_eq_true_eq]; exact Hz.out
  exact ⟨by rw [← ht]; rfl, hx⟩

set_option maxRecDepth 100000 in
set_option maxHeartbeats 1000000 in
theorem index42 (v : Value) (l : List It) (f : FuncId) (cap : Array Value) (p : It → Bool) (w : World) (hl : SQ It.cs 3 w v l)
    (hF : ∀ x ∈ l, ∀ w', Ext w w' → Calls Try.prog f (#[x.v] ++ cap) w' fun e w'' => e = .returned (.bool (p x)) ∧ Ext w' w'')
    (hE : ∀ args w, (callFunc f args).run Try.prog w = .ok (.enter f args) w) :
    Calls Try.prog 42 #[v, .func (.func f) #[] cap] w fun e w' => ∃ z : Int, e = .returned (.int .i64 z) ∧ (0 ≤ z ↔ l.any p = true) ∧ Ext w w' := by
  obtain ⟨base, cp, rfl⟩ := hl.form; have hle := hl.le
  go_enter Try.func42, Try.ntmps42
  go_wp2_with (fail)
  go_loopw [8] (fun i wr => ∃ k : Nat, k ≤ l.length ∧ i = .int .i64 k ∧ l.any p = (l.drop k).any p ∧ Ext w wr) (fun i _ => l.length - (iof i).toNat)
  case atStart => exact ⟨0, Nat.zero_le _, rfl, rfl, Ext.refl _⟩
  case round =>
    obtain ⟨k, hk, rfl, hi, hx⟩ := hrel
    by_cases hlt : k < l.length
    · obtain ⟨b, off, rfl, -, c0, c1, c2⟩ := it_at (hl.ext hx) k hlt
      have HF := hF l[k] (List.getElem_mem _) wr hx
      simp only [It.v] at HF
      have hs := any_drop hlt p
      have Hi := Lib.hid hi; clear hi
      have Hs := Lib.hid hs; clear hs
      cases hp : p l[k]
      · rw [hp] at HF
        have Hp := Lib.hid hp; clear hp
        go_wp2_with (with_reducible refine HF.mono ?_; rintro e' w1 ⟨rfl, hb⟩)
        go_roundw
        case rel => exact ⟨k + 1, by omega, by go_num, by rw [Hi.out, Hs.out, Hp.out]; rfl, hx.trans hb⟩
        case measure => simp [iof]; omega
      · rw [hp] at HF
        have Hp := Lib.hid hp; clear hp
        go_wp2_with (with_reducible refine HF.mono ?_; rintro e' w1 ⟨rfl, hb⟩)
        go_ret
        exact ⟨_, rfl, ⟨fun _ => by rw [Hi.out, Hs.out, Hp.out]; rfl, fun _ => by omega⟩, hx.trans hb⟩
    · have hkn : k = l.length := by omega
      subst hkn
      go_wp2_with (fail)
      go_ret
      exact ⟨-1, rfl, ⟨fun h => by omega, fun h => by rw [hi, List.drop_length] at h; cases h⟩, hx⟩

set_option maxRecDepth 100000 in
theorem contains29 (v : Value) (l : List It) (f : FuncId) (cap : Array Value) (p : It → Bool) (w : World) (hl : SQ It.cs 3 w v l)
    (hF : ∀ x ∈ l, ∀ w', Ext w w' → Calls Try.prog f (#[x.v] ++ cap) w' fun e w'' => e = .returned (.bool (p x)) ∧ Ext w' w'')
    (hE : ∀ args w, (callFunc f args).run Try.prog w = .ok (.enter f args) w) :
    Calls Try.prog 29 #[v, .func (.func f) #[] cap] w fun e w' => e = .returned (.bool (l.any p)) ∧ Ext w w' := by
  go_enter Try.func29, Try.ntmps29
  go_wp2_with (go_at_call 42; (with_reducible refine (index42 v l f cap p w hl hF hE).mono ?_); rintro e w1 ⟨z, rfl, hz, hx⟩; have Hz := Lib.hid hz; clear hz)
  go_ret
  have ht : decide (0 ≤ z) = l.any p := by rw [Bool.eq_iff_iff, decide_eq_true_eq]; exact Hz.out
  exact ⟨by rw [← ht]; rfl, hx⟩

set_option maxRecDepth 100000 in
set_option maxHeartbeats 1000000 in
theorem index44 (v : Value) (l : List Ms) (f : FuncId) (cap : Array Value) (p : Ms → Bool) (w : World) (hl : SQ Ms.cs 4 w v l)
    (hF : ∀ x ∈ l, ∀ w', Ext w w' → Calls Try.prog f (#[x.v] ++ cap) w' fun e w'' => e = .returned (.bool (p x)) ∧ Ext w' w'')
    (hE : ∀ args w, (callFunc f args).run Try.prog w = .ok (.enter f args) w) :
    Calls Try.prog 44 #[v, .func (.func f) #[] cap] w fun e w' => ∃ z : Int, e = .returned (.int .i64 z) ∧ (0 ≤ z ↔ l.any p = true) ∧ Ext w w' := by
  obtain ⟨base, cp, rfl⟩ := hl.form; have hle := hl.le
  go_enter Try.func44, Try.ntmps44
  go_wp2_with (fail)
  go_loopw [8] (fun i wr => ∃ k : Nat, k ≤ l.length ∧ i = .int .i64 k ∧ l.any p = (l.drop k).any p ∧ Ext w wr) (fun i _ => l.length - (iof i).toNat)
  case atStart => exact ⟨0, Nat.zero_le _, rfl, rfl, Ext.refl _⟩
  case round =>
    obtain ⟨k, hk, rfl, hi, hx⟩ := hrel
    by_cases hlt : k < l.length
    · obtain ⟨b, off, rfl, -, c0, c1, c2, c3⟩ := ms_at (hl.ext hx) k hlt
      have HF := hF l[k] (List.getElem_mem _) wr hx
      simp only [Ms.v] at HF
      have hs := any_drop hlt p
      have Hi := Lib.hid hi; clear hi
      have Hs := Lib.hid hs; clear hs
      cases hp : p l[k]
      · rw [hp] at HF
        have Hp := Lib.hid hp; clear hp
        go_wp2_with (with_reducible refine HF.mono ?_; rintro e' w1 ⟨rfl, hb⟩)
        go_roundw
        case rel => exact ⟨k + 1, by omega, by go_num, by rw [Hi.out, Hs.out, Hp.out]; rfl, hx.trans hb⟩
        case measure => simp [iof]; omega
      · rw [hp] at HF
        have Hp := Lib.hid hp; clear hp
        go_wp2_with (with_reducible refine HF.mono ?_; rintro e' w1 ⟨rfl, hb⟩)
        go_ret
        exact ⟨_, rfl, ⟨fun _ => by rw [Hi.out, Hs.out, Hp.out]; rfl, fun _ => by omega⟩, hx.trans hb⟩
    · have hkn : k = l.length := by omega
      subst hkn
      go_wp2_with (fail)
      go_ret
      exact ⟨-1, rfl, ⟨fun h => by omega, fun h => by rw [hi, List.drop_length] at h; cases h⟩, hx⟩

set_option maxRecDepth 100000 in
theorem contains32 (v : Value) (l : List Ms) (f : FuncId) (cap : Array Value) (p : Ms → Bool) (w : World) (hl : SQ Ms.cs 4 w v l)
    (hF : ∀ x ∈ l, ∀ w', Ext w w' → Calls Try.prog f (#[x.v] ++ cap) w' fun e w'' => e = .returned (.bool (p x)) ∧ Ext w' w'')
    (hE : ∀ args w, (callFunc f args).run Try.prog w = .ok (.enter f args) w) :
    Calls Try.prog 32 #[v, .func (.func f) #[] cap] w fun e w' => e = .returned (.bool (l.any p)) ∧ Ext w w' := by
  go_enter Try.func32, Try.ntmps32
  go_wp2_with (go_at_call 44; (with_reducible refine (index44 v l f cap p w hl hF hE).mono ?_); rintro e w1 ⟨z, rfl, hz, hx⟩; have Hz := Lib.hid hz; clear hz)
  go_ret
  have ht : decide (0 ≤ z) = l.any p := by rw [Bool.eq_iff_iff, decide_eq_true_eq]; exact Hz.out
  exact ⟨by rw [← ht]; rfl, hx⟩

end Go.Proofs.Ythdhlocoiipbaaa
