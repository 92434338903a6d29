/-
  Lemmas of this claim (JtG). Nothing is asked.
-/
import Derived.Test.YteomcpplajeidaaGreatJtF
import Derived.Laws.EntriesVeiled
namespace Go.Proofs.YteomcpplajeidaaGreat
set_option linter.unusedVariables false
set_option linter.unusedSimpArgs false
set_option maxRecDepth 100000
open Go.RowKit
theorem same97 (s nm : ByteArray) (g : Value) (q : Nat) (w : World) (h : w.cell? ⟨q, 0, none⟩ = some (.string nm)) :
    Calls Tryz.prog 176 #[.agg #[.string s, g], .pointer (some ⟨q, 0, none⟩)] w fun e w' => e = .returned (.bool (s.toList == nm.toList)) ∧ Ext w w' := by
  have hpl : q < w.heap.size := World.block_lt_of_cell? w _ h
  go_enter Tryz.func176, Tryz.ntmps176
  go_wp2
  go_ret
  exact ⟨rfl, (by with_reducible repeat (first | exact Ext.refl _ | assumption | apply Ext.drewN | apply Ext.drew | apply Ext.alloc | (refine Ext.setCell ?_ (by simp <;> omega) _) | (refine Ext.trans ?_ (by assumption))))⟩
def opNm : Nat → ByteArray
  | 0 => ⟨#[43]⟩ | 1 => ⟨#[45]⟩ | 2 => ⟨#[42]⟩ | 3 => ⟨#[47]⟩ | 4 => ⟨#[109, 105, 110]⟩ | _ => ⟨#[109, 97, 120]⟩
def opFn : Nat → FuncId
  | 0 => 168 | 1 => 169 | 2 => 170 | 3 => 171 | 4 => 172 | _ => 174
def opE (k j : Nat) : Value := if j = 0 then .string (opNm k) else .func (.func (opFn k)) #[] #[]
def opIx (nm : ByteArray) : Int := idxZ (fun k => (opNm k).toList == nm.toList) 6
theorem idxFrom_bd (p : Nat → Bool) (n : Nat) : ∀ f, f ≤ n → -1 ≤ idxFrom p n f ∧ idxFrom p n f < n
  | 0, _ => ⟨by simp [idxFrom], by simp [idxFrom]; omega⟩
  | f + 1, h => by
    have ih := idxFrom_bd p n f (by omega)
    unfold idxFrom
    split
    · omega
    · exact ih
theorem opIx_bd (nm : ByteArray) : -1 ≤ opIx nm ∧ opIx nm < 6 := by
  have h := idxFrom_bd (fun k => (opNm k).toList == nm.toList) 6 6 (Nat.le_refl _)
  unfold opIx idxZ; omega
theorem enters97 (args : Array Value) (w : World) : (callFunc 176 args).run Tryz.prog w = .ok (.enter 176 args) w := by go_simp
def findV (i : Int) : Value := if i = -1 then .tuple #[.agg #[.string ⟨#[]⟩, .nilFunc], .bool false] else .tuple #[.agg #[.string (opNm i.toNat), .func (.func (opFn i.toNat)) #[] #[]], .bool true]
def opCells : Array Value := #[.string ⟨#[43]⟩, .func (.func 168) #[] #[], .string ⟨#[45]⟩, .func (.func 169) #[] #[], .string ⟨#[42]⟩, .func (.func 170) #[] #[], .string ⟨#[47]⟩, .func (.func 171) #[] #[], .string ⟨#[109, 105, 110]⟩, .func (.func 172) #[] #[], .string ⟨#[109, 97, 120]⟩, .func (.func 174) #[] #[]]
theorem opCells_at (k j : Nat) (hk : k < 6) (hj : j < 2) : opCells[0 + k * 2 + j]? = some (opE k j) := by
  have h : k = 0 ∨ k = 1 ∨ k = 2 ∨ k = 3 ∨ k = 4 ∨ k = 5 := by omega
  have h2 : j = 0 ∨ j = 1 := by omega
  rcases h with rfl | rfl | rfl | rfl | rfl | rfl <;> rcases h2 with rfl | rfl <;> rfl
theorem find_index (nm : ByteArray) (w : World) (b q : Nat) (hb : ∀ j, w.cell? ⟨b, j, none⟩ = opCells[j]?) (hq : w.cell? ⟨q, 0, none⟩ = some (.string nm)) :
    Calls Tryz.prog 175 #[.slice (some ⟨b, 0, none⟩) 6 6, .func (.func 176) #[] #[.pointer (some ⟨q, 0, none⟩)]] w fun e w' => e = .returned (.int .i64 (opIx nm)) ∧ Ext w w' := by
  have hql : q < w.heap.size := World.block_lt_of_cell? w _ hq
  refine index96 b 0 6 6 (by decide) 176 _ opE (fun k => (opNm k).toList == nm.toList) w (fun k hk => (hb _).trans (opCells_at k 0 hk (by decide))) (fun k hk => (hb _).trans (opCells_at k 1 hk (by decide))) ?_ enters97
  intro k w' hk hx
  exact same97 (opNm k) nm _ q w' ((hx.cells.1 q 0 hql).trans hq)
set_option maxRecDepth 100000 in
set_option maxHeartbeats 2000000 in
theorem find_walk (nm : ByteArray) (i : Int) (hi : opIx nm = i) (h : i = -1 ∨ i = 0 ∨ i = 1 ∨ i = 2 ∨ i = 3 ∨ i = 4 ∨ i = 5) (w : World) :
    Calls Tryz.prog 137 #[.string nm] w fun e w' => e = .returned (findV i) ∧ Ext w w' := by
  have Hi := Lib.hid hi; clear hi
  have hmf : ∀ (fn : Fn) (first cap : Array Value) (w : World), (Instr.makeFunc fn first cap).run Tryz.prog w = .ok (.func fn first cap) w := fun _ _ _ _ => rfl
  have HF := Lib.hid (fun w => find_index nm w)
  have z0 : ∀ j : Nat, #[Value.string nm][j]? = #[Value.string nm][j]? := fun _ => rfl
  clear z0
  rcases h with rfl | rfl | rfl | rfl | rfl | rfl | rfl
  · go_enter Tryz.func137, Tryz.ntmps137
    go_wp2_with (go_at_call 175; (with_reducible refine (HF.out _ _ _ ?_ ?_).mono ?_); (intro j; simp [go_sem, opCells]); (simp [go_sem]); rintro e w1 ⟨rfl, hb⟩; rw [Hi.out]; obtain ⟨hc, hf⟩ := hb.cells)
    exact bodyPost_ret (v := findV (-1)) (by simp [results, Tryz.results137, go_sem, hc, findV]) rfl ⟨rfl, (by with_reducible repeat (first | exact Ext.refl _ | assumption | apply Ext.drewN | apply Ext.drew | apply Ext.alloc | (refine Ext.setCell ?_ (by simp <;> omega) _) | (refine Ext.trans ?_ (by assumption))))⟩
  · go_enter Tryz.func137, Tryz.ntmps137
    go_wp2_with (go_at_call 175; (with_reducible refine (HF.out _ _ _ ?_ ?_).mono ?_); (intro j; simp [go_sem, opCells]); (simp [go_sem]); rintro e w1 ⟨rfl, hb⟩; rw [Hi.out]; obtain ⟨hc, hf⟩ := hb.cells)
    exact bodyPost_ret (v := findV (0)) (by simp [results, Tryz.results137, go_sem, hc, findV, opNm, opFn]) rfl ⟨rfl, (by with_reducible repeat (first | exact Ext.refl _ | assumption | apply Ext.drewN | apply Ext.drew | apply Ext.alloc | (refine Ext.setCell ?_ (by simp <;> omega) _) | (refine Ext.trans ?_ (by assumption))))⟩
  · go_enter Tryz.func137, Tryz.ntmps137
    go_wp2_with (go_at_call 175; (with_reducible refine (HF.out _ _ _ ?_ ?_).mono ?_); (intro j; simp [go_sem, opCells]); (simp [go_sem]); rintro e w1 ⟨rfl, hb⟩; rw [Hi.out]; obtain ⟨hc, hf⟩ := hb.cells)
    exact bodyPost_ret (v := findV (1)) (by simp [results, Tryz.results137, go_sem, hc, findV, opNm, opFn]) rfl ⟨rfl, (by with_reducible repeat (first | exact Ext.refl _ | assumption | apply Ext.drewN | apply Ext.drew | apply Ext.alloc | (refine Ext.setCell ?_ (by simp <;> omega) _) | (refine Ext.trans ?_ (by assumption))))⟩
  · go_enter Tryz.func137, Tryz.ntmps137
    go_wp2_with (go_at_call 175; (with_reducible refine (HF.out _ _ _ ?_ ?_).mono ?_); (intro j; simp [go_sem, opCells]); (simp [go_sem]); rintro e w1 ⟨rfl, hb⟩; rw [Hi.out]; obtain ⟨hc, hf⟩ := hb.cells)
    exact bodyPost_ret (v := findV (2)) (by simp [results, Tryz.results137, go_sem, hc, findV, opNm, opFn]) rfl ⟨rfl, (by with_reducible repeat (first | exact Ext.refl _ | assumption | apply Ext.drewN | apply Ext.drew | apply Ext.alloc | (refine Ext.setCell ?_ (by simp <;> omega) _) | (refine Ext.trans ?_ (by assumption))))⟩
  · go_enter Tryz.func137, Tryz.ntmps137
    go_wp2_with (go_at_call 175; (with_reducible refine (HF.out _ _ _ ?_ ?_).mono ?_); (intro j; simp [go_sem, opCells]); (simp [go_sem]); rintro e w1 ⟨rfl, hb⟩; rw [Hi.out]; obtain ⟨hc, hf⟩ := hb.cells)
    exact bodyPost_ret (v := findV (3)) (by simp [results, Tryz.results137, go_sem, hc, findV, opNm, opFn]) rfl ⟨rfl, (by with_reducible repeat (first | exact Ext.refl _ | assumption | apply Ext.drewN | apply Ext.drew | apply Ext.alloc | (refine Ext.setCell ?_ (by simp <;> omega) _) | (refine Ext.trans ?_ (by assumption))))⟩
  · go_enter Tryz.func137, Tryz.ntmps137
    go_wp2_with (go_at_call 175; (with_reducible refine (HF.out _ _ _ ?_ ?_).mono ?_); (intro j; simp [go_sem, opCells]); (simp [go_sem]); rintro e w1 ⟨rfl, hb⟩; rw [Hi.out]; obtain ⟨hc, hf⟩ := hb.cells)
    exact bodyPost_ret (v := findV (4)) (by simp [results, Tryz.results137, go_sem, hc, findV, opNm, opFn]) rfl ⟨rfl, (by with_reducible repeat (first | exact Ext.refl _ | assumption | apply Ext.drewN | apply Ext.drew | apply Ext.alloc | (refine Ext.setCell ?_ (by simp <;> omega) _) | (refine Ext.trans ?_ (by assumption))))⟩
  · go_enter Tryz.func137, Tryz.ntmps137
    go_wp2_with (go_at_call 175; (with_reducible refine (HF.out _ _ _ ?_ ?_).mono ?_); (intro j; simp [go_sem, opCells]); (simp [go_sem]); rintro e w1 ⟨rfl, hb⟩; rw [Hi.out]; obtain ⟨hc, hf⟩ := hb.cells)
    exact bodyPost_ret (v := findV (5)) (by simp [results, Tryz.results137, go_sem, hc, findV, opNm, opFn]) rfl ⟨rfl, (by with_reducible repeat (first | exact Ext.refl _ | assumption | apply Ext.drewN | apply Ext.drew | apply Ext.alloc | (refine Ext.setCell ?_ (by simp <;> omega) _) | (refine Ext.trans ?_ (by assumption))))⟩
theorem find_any (nm : ByteArray) (w : World) : Calls Tryz.prog 137 #[.string nm] w fun e w' => e = .returned (findV (opIx nm)) ∧ Ext w w' :=
  find_walk nm _ rfl (by have := opIx_bd nm; omega) w
end Go.Proofs.YteomcpplajeidaaGreat
