/-
  The reference's small numbers: Mod, numbers.next. Conditions: the ranges of the numbers.
-/
import Derived.Test.YtlekdhhgjhakgaaJnE
namespace Go.Proofs.Ytlekdhhgjhakgaa
set_option linter.unusedVariables false
set_option linter.unusedSimpArgs false
open Go.RowKit
/-- What Mod gives. -/
abbrev modZ (n m : Int) : Int := n % m
theorem tmod_bd (n : Int) {m : Int} (hm : 0 < m) : -m < n.tmod m ∧ n.tmod m < m := by
  have h1 := Int.tmod_lt_of_pos n hm
  have h2 := Int.tmod_lt_of_pos (-n) hm
  rw [Int.neg_tmod] at h2
  exact ⟨by omega, h1⟩
theorem modZ_eq (n m : Int) : (n.tmod m + m) % m = n % m := by
  rw [Int.add_emod_right]
  conv => rhs; rw [← Int.tmod_add_mul_tdiv n m]
  rw [Int.add_mul_emod_self_left]
theorem modZ_bd (n : Int) {m : Int} (hm : 0 < m) : 0 ≤ modZ n m ∧ modZ n m < m :=
  ⟨Int.emod_nonneg _ (by omega), Int.emod_lt_of_pos _ hm⟩
set_option maxHeartbeats 400000 in
theorem Mod_any (n m : Int) (hm : 0 < m) (hm2 : m ≤ 1000000) (hn : OkI n) (w : World) :
    Calls Try.prog 17 #[.int .i64 n, .int .i64 m] w fun e w' => e = .returned (.int .i64 (modZ n m)) ∧ w = w' := by
  obtain ⟨h1, h2⟩ := hn
  have hm0 : ¬ m = 0 := by omega
  have b := tmod_bd n hm
  have HE := Lib.hid (modZ_eq n m)
  go_enter Try.func17, Try.ntmps17
  go_wp2
  go_ret
  exact ⟨by rw [HE.out]; rfl, rfl⟩
/-- A box of numbers: what of them has been used. -/
structure NX (W w : World) (bn : Nat) (v : Value) (ns : List Int) (pos : Nat) : Prop where
  low : Ext W w
  at_ : w.heap[bn]? = some (.cells #[v, .int .i64 pos] 63)
  ge : W.heap.size ≤ bn
  ird : IRd W v ns
  le : pos ≤ ns.length
theorem NX.ext {W w w' : World} {bn : Nat} {v : Value} {ns : List Int} {pos : Nat} (h : NX W w bn v ns pos) (x : Ext w w') : NX W w' bn v ns pos :=
  ⟨h.low.trans x, (x.block _ (Rg.lt_of_heap h.at_)).trans h.at_, h.ge, h.ird, h.le⟩
set_option maxRecDepth 100000 in
set_option maxHeartbeats 8000000 in
theorem next_any {W w : World} {bn : Nat} {v : Value} {ns : List Int} {pos : Nat} (h : NX W w bn v ns pos) (n : Int) (hn : 1 ≤ n ∧ n ≤ 1000000) :
    Calls Try.prog 27 #[.pointer (some ⟨bn, 0, none⟩), .int .i64 n] w fun e w' => ∃ k pos' : Nat, e = .returned (.int .i64 (k : Int)) ∧ (k : Int) < n ∧ NX W w' bn v ns pos' ∧ w.grownBy w' (some bn) := by

  obtain ⟨A, c, hv, hl, hok, hcl⟩ := h.ird
  subst hv
  have H := Lib.hid h
  have hle := h.le
  have c0 : w.cell? ⟨bn, 0, none⟩ = some (.slice A ns.length c) := cell_of_row w bn 0 _ _ _ h.at_
  have c1 : w.cell? ⟨bn, 1, none⟩ = some (.int .i64 pos) := cell_of_row w bn 1 _ _ _ h.at_
  have f1 : w.frozen? ⟨bn, 1, none⟩ = false := tab_frozen h.at_
  have HCL := Lib.hid hcl
  have HOK := Lib.hid hok
  clear h hcl hok
  go_enter Try.func27, Try.ntmps27
  go_upto_region 1 with (fail)
  by_cases hp : pos < ns.length
  · go_quiet (fail)
    have HD := Lib.hid (H.out.ext (show Ext w (w.drewN nq) from (by with_reducible repeat (first | exact Ext.refl _ | assumption | apply Ext.drewN | apply Ext.drew | apply Ext.alloc | (refine Ext.setCell ?_ (by simp <;> omega) _) | (refine Ext.trans ?_ (by assumption))))))
    have HGD : Hid (w.grownBy (w.drewN nq) (some bn)) := Lib.hid ⟨rfl, rfl, rfl, Nat.le_refl _, fun _ _ _ => rfl⟩
    generalize w.drewN nq = wd at *
    have e0 : wd.cell? ⟨bn, 0, none⟩ = some (.slice A ns.length c) := cell_of_row wd bn 0 _ _ _ HD.out.at_
    have e1 : wd.cell? ⟨bn, 1, none⟩ = some (.int .i64 pos) := cell_of_row wd bn 1 _ _ _ HD.out.at_
    have g1 : wd.frozen? ⟨bn, 1, none⟩ = false := tab_frozen HD.out.at_
    have hnx : NX W (wd.setCell ⟨bn, 1, none⟩ (.int .i64 ((pos + 1 : Nat) : Int))) bn (.slice A ns.length c) ns (pos + 1) :=
      ⟨Ext.setCell HD.out.low HD.out.ge _, (heap_setCell_row _ HD.out.at_).trans rfl, HD.out.ge, HD.out.ird, by omega⟩
    have hgr : w.grownBy (wd.setCell ⟨bn, 1, none⟩ (.int .i64 ((pos + 1 : Nat) : Int))) (some bn) := ⟨HGD.out.os, HGD.out.tape, HGD.out.output, by rw [World.size_setCell]; exact HGD.out.size, fun k hk hne => (heap_setCell_other _ fun e => hne (by rw [e])).trans (HGD.out.block k hk hne)⟩
    rw [Int.natCast_add, Int.natCast_one] at hnx hgr
    have HNX := Lib.hid hnx; have HGR := Lib.hid hgr
    clear hnx hgr c0 c1 f1
    go_upto_region 4 with (fail)
    generalize wd.setCell ⟨bn, 1, none⟩ (.int .i64 ((pos : Int) + 1)) = w1 at *
    have d0 : w1.cell? ⟨bn, 0, none⟩ = some (.slice A ns.length c) := cell_of_row w1 bn 0 _ _ _ HNX.out.at_
    have d1 : w1.cell? ⟨bn, 1, none⟩ = some (.int .i64 ((pos : Int) + 1)) := cell_of_row w1 bn 1 _ _ _ HNX.out.at_
    obtain ⟨b, off, rfl, hc⟩ := HCL.out.resolve_left (by intro e; rw [e] at hp; simp at hp)
    have hcp : w1.cell? ⟨b, off + pos, none⟩ = some (.int .i64 ns[pos]) := (HNX.out.low.cells.1 _ _ (World.block_lt_of_cell? W _ (hc pos hp))).trans (hc pos hp)
    have hkk := HOK.out _ (List.getElem_mem hp)
    have HM := Lib.hid (fun wz => Mod_any ns[pos] n (by omega) (by omega) hkk wz)
    have HB := Lib.hid (modZ_bd ns[pos] (show 0 < n by omega))
    have hpn : (pos : Int) < (ns.length : Int) := by omega
    clear hc hkk e0 e1 g1
    generalize modZ ns[pos] n = q at *
    generalize ns[pos] = z at *
    have hwp : IntKind.i64.wrap (pos : Int) = (pos : Int) := by rw [IntKind.wrap_i64]; omega
    go_quiet (first | (go_at_call 17; (with_reducible refine Calls.quiet_of_same ((HM.out _).mono fun _ _ h => ⟨h.1, h.2.symm⟩))))
    go_wp2_with (fail)
    go_ret
    exact ⟨q.toNat, pos + 1, by rw [Int.toNat_of_nonneg HB.out.1]; rfl, by rw [Int.toNat_of_nonneg HB.out.1]; exact HB.out.2, HNX.out.ext (by with_reducible repeat (first | exact Ext.refl _ | assumption | apply Ext.drewN | apply Ext.drew | apply Ext.alloc | (refine Ext.setCell ?_ (by simp <;> omega) _) | (refine Ext.trans ?_ (by assumption)))), ⟨HGR.out.os, HGR.out.tape, HGR.out.output, HGR.out.size, HGR.out.block⟩⟩
  · go_quiet (fail)
    go_wp2_with (fail)
    go_ret
    exact ⟨0, pos, rfl, by omega, H.out.ext (by with_reducible repeat (first | exact Ext.refl _ | assumption | apply Ext.drewN | apply Ext.drew | apply Ext.alloc | (refine Ext.setCell ?_ (by simp <;> omega) _) | (refine Ext.trans ?_ (by assumption)))), ⟨rfl, rfl, rfl, Nat.le_refl _, fun _ _ _ => rfl⟩⟩
end Go.Proofs.Ytlekdhhgjhakgaa
