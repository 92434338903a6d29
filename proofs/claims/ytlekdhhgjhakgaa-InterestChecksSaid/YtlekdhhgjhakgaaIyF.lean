/-
  loads walked: the greatest number of duties of an assessor. Condition: the duties lie in memory.
-/
import Derived.Test.YtlekdhhgjhakgaaJnE
namespace Go.Proofs.Ytlekdhhgjhakgaa
set_option linter.unusedVariables false
set_option linter.unusedSimpArgs false
open Go.RowKit
def mostP (l : List (Int × Int)) (i : Nat) : Nat := ((l.take i).map fun x => (l.map (·.1)).count x.1).foldl max 0
theorem mostP_all (l : List (Int × Int)) : mostP l l.length = mostF (l.map (·.1)) := by
  unfold mostP mostF
  rw [List.take_length, List.map_map]
  rfl
theorem mostP_succ (l : List (Int × Int)) (i : Nat) (h : i < l.length) : mostP l (i + 1) = max (mostP l i) ((l.map (·.1)).count l[i].1) := by
  unfold mostP
  rw [List.take_succ_eq_append_getElem h, List.map_append, List.foldl_append]
  rfl
theorem mostP_le (l : List (Int × Int)) (i : Nat) : mostP l i ≤ l.length := by
  unfold mostP
  rw [foldl_max_le]
  refine ⟨Nat.zero_le _, fun x hx => ?_⟩
  obtain ⟨y, -, rfl⟩ := List.mem_map.1 hx
  exact Nat.le_trans List.count_le_length (by simp)
theorem count_take (l : List (Int × Int)) (a : Int) (j : Nat) (h : j < l.length) : ((l.take (j + 1)).map (·.1)).count a = ((l.take j).map (·.1)).count a + if l[j].1 = a then 1 else 0 := by
  rw [List.take_succ_eq_append_getElem h, List.map_append, List.count_append]
  congr 1
  by_cases e : l[j].1 = a
  · rw [if_pos e, ← e]; simp
  · rw [if_neg e]
    exact List.count_eq_zero.2 (by simpa using fun e2 => e e2.symm)
set_option maxRecDepth 100000 in
set_option maxHeartbeats 8000000 in
theorem loads_any (v : Value) (l : List (Int × Int)) (w : World) (hl : SR reC 2 w v l) :
    Calls Try.prog 21 #[v] w fun e w' => e = .returned (.int .i64 (mostF (l.map (·.1)))) ∧ Ext w w' := by
  obtain ⟨b0, n0, rfl⟩ := hl.form
  have hll := hl.le
  have HL := Lib.hid hl
  clear hl
  go_enter Try.func21, Try.ntmps21
  go_wp2_with (fail)
  go_loopw [3, 4] (fun mv iv wr => ∃ i : Nat, iv = .int .i64 i ∧ i ≤ l.length ∧ mv = .int .i64 (mostP l i) ∧ Hid (Ext w wr)) (fun _ iv _ => l.length - (iof iv).toNat)
  case atStart => exact ⟨0, rfl, by omega, by simp [mostP], Lib.hid (Ext.refl _)⟩
  case round =>
    rename World => wo
    obtain ⟨i, rfl, hi, rfl, HX⟩ := hrel
    have hmp := mostP_le l i
    by_cases hil : i < l.length
    · obtain ⟨g, rfl, hgl, d0, -⟩ := re_at HL.out i hil
      have HMS := Lib.hid (mostP_succ l i hil)
      generalize l[i].1 = a at *
      generalize mostP l i = m1 at *
      go_wp2_with (fail)
      go_loopw [5, 6] (fun nv jv wq => ∃ j : Nat, jv = .int .i64 j ∧ j ≤ l.length ∧ nv = .int .i64 (((l.take j).map (·.1)).count a : Nat) ∧ Hid (Ext w wq)) (fun _ jv _ => l.length - (iof jv).toNat)
      case atStart => exact ⟨0, rfl, by omega, by simp, HX⟩
      case round =>
        obtain ⟨j, rfl, hj, rfl, HX2⟩ := hrel
        by_cases hjl : j < l.length
        · obtain ⟨g', hg', hgl', d1, -⟩ := re_at HL.out j hjl
          have hgg : g' = g := by injection hg' with hg'; injection hg' with hg'; exact hg'.symm
          subst hgg
          have HCT := Lib.hid (count_take l a j hjl)
          generalize l[j].1 = b at *
          have hcb : ((l.take j).map (·.1)).count a ≤ 1000000 := Nat.le_trans List.count_le_length (by rw [List.length_map, List.length_take]; omega)
          generalize ((l.take j).map (·.1)).count a = c at *
          have e0 := (HX2.out.cells.1 _ _ hgl).trans d0
          have e1 := (HX2.out.cells.1 _ _ hgl').trans d1
          have hglw := Nat.lt_of_lt_of_le hgl HX2.out.size
          clear hg'
          by_cases hba : b = a
          · have hbq : (b == a) = true := by simpa using hba
            go_upto_region 9 with (fail)
            go_quiet (fail)
            go_wp2_with (fail)
            go_roundw
            case rel => exact ⟨j + 1, by simp, by omega, by rw [HCT.out, if_pos hba]; rfl, Lib.hid (HX2.out.trans (by with_reducible repeat (first | exact Ext.refl _ | assumption | apply Ext.drewN | apply Ext.drew | apply Ext.alloc | (refine Ext.setCell ?_ (by simp <;> omega) _) | (refine Ext.trans ?_ (by assumption)))))⟩
            case measure => simp [iof]; omega
          · have hbq : (b == a) = false := by simpa using hba
            have HNE := Lib.hid hba
            clear hba
            go_upto_region 9 with (fail)
            go_quiet (fail)
            go_wp2_with (fail)
            go_roundw
            case rel => exact ⟨j + 1, by simp, by omega, by rw [HCT.out, if_neg HNE.out]; rfl, Lib.hid (HX2.out.trans (by with_reducible repeat (first | exact Ext.refl _ | assumption | apply Ext.drewN | apply Ext.drew | apply Ext.alloc | (refine Ext.setCell ?_ (by simp <;> omega) _) | (refine Ext.trans ?_ (by assumption)))))⟩
            case measure => simp [iof]; omega
        · obtain rfl : j = l.length := by omega
          have HTL : Hid ((l.take l.length).map (·.1) = l.map (·.1)) := Lib.hid (by rw [List.take_length])
          rw [← HTL.out] at HMS
          generalize ((l.take l.length).map (·.1)).count a = c at *
          go_wp2_with (fail)
          exact ⟨⟨i + 1, by simp, by omega, by rw [HMS.out]; congr 1; omega, HX2⟩, by simp [iof]; omega⟩
    · obtain rfl : i = l.length := by omega
      have HE := Lib.hid (mostP_all l)
      generalize mostP l l.length = q at *
      go_wp2_with (fail)
      go_ret
      exact ⟨by rw [← HE.out]; rfl, HX.out⟩
end Go.Proofs.Ytlekdhhgjhakgaa
