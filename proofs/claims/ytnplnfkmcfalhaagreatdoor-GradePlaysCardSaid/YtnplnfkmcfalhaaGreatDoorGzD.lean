/-
  grade.ordered: the keys of a map in their order, at places and at ints. Condition: what the map holds.
-/
import Derived.Test.YtnplnfkmcfalhaaGreatDoorGzC
import Derived.Test.YtnplnfkmcfalhaaGreatDoorMed
namespace Go.Proofs.YtnplnfkmcfalhaaGreatDoor
set_option linter.unusedVariables false
set_option linter.unusedSimpArgs false
open Go.RowKit Go.Sort Go.Shelf Go.Lib

theorem srtI_cmp (l : List Int) : (l.mergeSort fun x y => !(ltOf Lib.compareInt) y x) = srtI l := by
  have e : (fun x y : Int => !(ltOf Lib.compareInt) y x) = fun x y => decide (x ≤ y) := by
    funext x y
    unfold ltOf Lib.compareInt
    by_cases h1 : y < x
    · have h2 : ¬ x ≤ y := by omega
      simp [h1, h2]
    · have h2 : x ≤ y := by omega
      by_cases h3 : x < y <;> simp [h1, h2, h3]
  rw [e]
  rfl
theorem sortQ_own (B : Nat) (v : Value) (l : List Int) (w : World) (hrow : w.ownsRow B 3 1 v l.length (l.flatMap celI)) (hl : ∀ x ∈ l, OkI x) (hn : l.length ≤ 1000000) :
    Calls Tryz.prog 79 #[v, .func (.func 35) #[] #[]] w fun e w' => e = .returned (.tuple #[]) ∧ IRd w' v (srtI l) ∧ Below B w w' ∧ TG 3 w' v := by
  by_cases h0 : l = []
  · subst h0
    obtain ⟨A, c, rfl⟩ := (SR.of_row (cs := celI) (fun x => (celI_len x).1) hrow (by simp)).form
    have hN := AnyF.slices_SortFunc_none (ρ := sortQ_ren) { sortQ with } A c (.func (.func 35) #[] #[]) w
    change Calls Tryz.prog 79 _ _ _ at hN
    refine hN.mono ?_
    rintro e w1 ⟨rfl, rfl⟩
    exact ⟨rfl, ⟨A, c, by simp [srtI], by simp [srtI], by simp [srtI], .inl (by simp [srtI])⟩, Below.refl _ _, TG.zero⟩
  · have hp : 0 < l.length := List.length_pos_iff.2 h0
    have hr2 := hrow
    rw [celI_map] at hr2
    rcases hr2.2 with ⟨-, h⟩ | ⟨g, cap, cur, rfl, hBg, hb, h1, h2, h3, h4⟩
    · omega
    · have htk : cur.toList.take l.length = l.map (Value.int .i64) := by rw [← h4, Nat.mul_one]
      have hH := Go.holds_of_blockI hb htk
      have hS := Any.slices_SortFunc_total sortQ (Value.int .i64) (fun _ => rfl) Lib.compareInt gcI.swo 35 #[] g 0 cap l.toArray w
        (enters_of Tryz.func35 (by kernel_rfl) rfl) (fun m os dk _ x y => (cmpI_any x y _).mono fun _ _ ⟨a, b⟩ => ⟨a, 0, #[], by rw [b]; rfl⟩) hH (Rg.lt_of_heap hb) (by simp; omega) (fun x y a b => gcI.total x y a b)
      change Calls Tryz.prog 79 _ _ _ at hS
      have hsz : l.toArray.size = l.length := by simp
      rw [hsz, show (l.toArray.toList.mergeSort fun x y => !(ltOf Lib.compareInt) y x) = srtI l from srtI_cmp l] at hS
      have hlt : (srtI l).length = l.length := srtI_len l
      have hmem : ∀ x ∈ srtI l, OkI x := fun x hx => hl x (mem_srtI.1 hx)
      generalize srtI l = ts at *
      have hHq : ∀ q os, Go.Sort.Holds (Value.int .i64) (Go.Sort.grow (Go.Sort.putRow (Value.int .i64) (Go.Sort.ahead w q) g 0 ts.toArray) os) g 0 ts.toArray := fun q os => Go.holds_of_blockI (Go.heap_sortedI _ hb) (Go.take_putCellsI cur ts (by omega))
      refine hS.mono ?_
      rintro e w1 ⟨rfl, q, os, hw1⟩
      subst hw1
      refine ⟨rfl, ⟨_, cap, by rw [hlt], by omega, hmem, .inr ⟨g, 0, rfl, fun k hk => ?_⟩⟩, ?_, TG.of (Go.heap_sortedI _ hb)⟩
      · have := (hHq q os k (by simpa using hk)).1
        show (Go.Sort.grow (Go.Sort.putRow (Value.int .i64) (Go.Sort.ahead w q) g 0 ts.toArray) os).cell? _ = _
        rw [this, getElem!_pos _ k (by simpa using hk)]
        simp
      · have hg : w.grownBy (Go.Sort.grow (Go.Sort.putRow (Value.int .i64) (Go.Sort.ahead w q) g 0 ts.toArray) os) (some g) := grown_putRow _
        exact ⟨hg.os, hg.tape, hg.output, hg.size, fun k hk => hg.block k (by have := Rg.lt_of_heap hb; omega) (by simp; omega)⟩

theorem keysvP (o : Option Nat) (w : World) : Calls Tryz.prog 49 #[.map o] w fun e w' => e = .returned (.func (.func 74) #[] #[.pointer (some ⟨w.heap.size, 0, none⟩)]) ∧ w' = w.alloc (.cells #[.map o] 38) := by
  go_enter Tryz.func49, Tryz.ntmps49
  go_wp2
  go_ret
  exact ⟨rfl, rfl⟩
theorem sortedP (Bm : Nat) (o : Option Nat) (m : List (Pl × Value)) (w : World) (hB : Bm < w.heap.size) (hm : w.cell? ⟨Bm, 0, none⟩ = some (.map o)) (hM : MPO encP OkP w o m) (hl : m.length ≤ 1000000) :
    Calls Tryz.prog 48 #[.func (.func 74) #[] #[.pointer (some ⟨Bm, 0, none⟩)], .func (.func 31) #[] #[]] w fun e w' => ∃ v, e = .returned v ∧ SR plC 4 w' v (srtP (m.map (·.1))) ∧ Ext w w' ∧ TG 91 w' v := by
  have hC := collectP Bm o m w hB hm (fun W hW => hM.ext hW) hl
  have HG : Hid (∀ p ∈ m, OkP p.1) := Lib.hid (by
    cases o with
    | none => rw [show m = [] from hM]; simp
    | some b => exact MP.gd (show MP encP OkP w b m from hM))
  clear hm hM hB
  go_enter Tryz.func48, Tryz.ntmps48
  go_upto_region 2 with (go_at_call 72; (with_reducible refine hC.mono ?_); rintro e w2 ⟨v, ks, rfl, hp, hr, hx⟩)
  have hkl : ks.length ≤ 1000000 := by have := hp.length_eq; simp at this; omega
  obtain ⟨vb, vc, rfl⟩ := (SR.of_row (cs := plC) (fun _ => rfl) hr (by omega)).form
  have HS := Lib.hid (sortP_own w.heap.size _ ks w2 hr hkl)
  have HX := Lib.hid hx; have HP := Lib.hid hp
  clear hr hx hp
  go_wp2_with (go_at_call 73; (with_reducible refine HS.out.mono ?_); rintro e w3 ⟨rfl, hs, hb, htg⟩)
  go_ret
  exact ⟨_, rfl, by rw [← srtP_of_perm HP.out]; exact hs, Below.trans HX.out hb, htg⟩
theorem orderedP (o : Option Nat) (m : List (Pl × Value)) (w : World) (hM : MPO encP OkP w o m) (hl : m.length ≤ 1000000) :
    Calls Tryz.prog 30 #[.map o, .func (.func 31) #[] #[]] w fun e w' => ∃ v, e = .returned v ∧ SR plC 4 w' v (srtP (m.map (·.1))) ∧ Ext w w' ∧ TG 91 w' v := by
  have hx0 : Ext w (w.alloc (.cells #[.map o] 38)) := Ext.alloc (Ext.refl _) _
  have hS := sortedP w.heap.size o m (w.alloc (.cells #[.map o] 38)) (by simp) (cell_of_row _ _ 0 _ _ _ (heap_alloc_new w _)) (hM.ext hx0) hl
  clear hM
  go_enter Tryz.func30, Tryz.ntmps30
  go_wp2_with (first
    | (go_at_call 49; (with_reducible refine (keysvP o w).mono ?_); rintro e w2 ⟨rfl, rfl⟩)
    | (go_at_call 48; (with_reducible refine hS.mono ?_); rintro e w3 ⟨v, rfl, hs, hx, htg⟩))
  go_ret
  exact ⟨_, rfl, hs, hx0.trans hx, htg⟩

theorem keysvI (o : Option Nat) (w : World) : Calls Tryz.prog 55 #[.map o] w fun e w' => e = .returned (.func (.func 80) #[] #[.pointer (some ⟨w.heap.size, 0, none⟩)]) ∧ w' = w.alloc (.cells #[.map o] 35) := by
  go_enter Tryz.func55, Tryz.ntmps55
  go_wp2
  go_ret
  exact ⟨rfl, rfl⟩
theorem sortedI (Bm : Nat) (o : Option Nat) (m : List (Int × Value)) (w : World) (hB : Bm < w.heap.size) (hm : w.cell? ⟨Bm, 0, none⟩ = some (.map o)) (hM : MPO encI OkI w o m) (hl : m.length ≤ 1000000) :
    Calls Tryz.prog 54 #[.func (.func 80) #[] #[.pointer (some ⟨Bm, 0, none⟩)], .func (.func 35) #[] #[]] w fun e w' => ∃ v, e = .returned v ∧ IRd w' v (srtI (m.map (·.1))) ∧ Ext w w' ∧ TG 3 w' v := by
  have hC := collectI Bm o m w hB hm (fun W hW => hM.ext hW) hl
  have HG : Hid (∀ p ∈ m, OkI p.1) := Lib.hid (by
    cases o with
    | none => rw [show m = [] from hM]; simp
    | some b => exact MP.gd (show MP encI OkI w b m from hM))
  clear hm hM hB
  go_enter Tryz.func54, Tryz.ntmps54
  go_upto_region 2 with (go_at_call 78; (with_reducible refine hC.mono ?_); rintro e w2 ⟨v, ks, rfl, hp, hr, hx⟩)
  have hkl : ks.length ≤ 1000000 := by have := hp.length_eq; simp at this; omega
  obtain ⟨vb, vc, rfl⟩ := (SR.of_row (cs := celI) (fun _ => rfl) hr (by omega)).form
  have HS := Lib.hid (sortQ_own w.heap.size _ ks w2 hr (fun x hx => by obtain ⟨p, hp2, rfl⟩ := List.mem_map.1 (hp.mem_iff.1 hx); exact HG.out p hp2) hkl)
  have HX := Lib.hid hx; have HP := Lib.hid hp
  clear hr hx hp
  go_wp2_with (go_at_call 79; (with_reducible refine HS.out.mono ?_); rintro e w3 ⟨rfl, hs, hb, htg⟩)
  go_ret
  exact ⟨_, rfl, by rw [← srtI_of_perm HP.out]; exact hs, Below.trans HX.out hb, htg⟩
theorem orderedI (o : Option Nat) (m : List (Int × Value)) (w : World) (hM : MPO encI OkI w o m) (hl : m.length ≤ 1000000) :
    Calls Tryz.prog 34 #[.map o, .func (.func 35) #[] #[]] w fun e w' => ∃ v, e = .returned v ∧ IRd w' v (srtI (m.map (·.1))) ∧ Ext w w' ∧ TG 3 w' v := by
  have hx0 : Ext w (w.alloc (.cells #[.map o] 35)) := Ext.alloc (Ext.refl _) _
  have hS := sortedI w.heap.size o m (w.alloc (.cells #[.map o] 35)) (by simp) (cell_of_row _ _ 0 _ _ _ (heap_alloc_new w _)) (hM.ext hx0) hl
  clear hM
  go_enter Tryz.func34, Tryz.ntmps34
  go_wp2_with (first
    | (go_at_call 55; (with_reducible refine (keysvI o w).mono ?_); rintro e w2 ⟨rfl, rfl⟩)
    | (go_at_call 54; (with_reducible refine hS.mono ?_); rintro e w3 ⟨v, rfl, hs, hx, htg⟩))
  go_ret
  exact ⟨_, rfl, hs, hx0.trans hx, htg⟩
end Go.Proofs.YtnplnfkmcfalhaaGreatDoor
