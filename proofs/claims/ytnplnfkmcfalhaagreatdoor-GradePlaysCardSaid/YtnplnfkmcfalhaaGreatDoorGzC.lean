/-
  The keys of a map, in their order: at places and at ints. Condition: what the map holds.
-/
import Derived.Test.YtnplnfkmcfalhaaGreatDoorGzB
namespace Go.Proofs.YtnplnfkmcfalhaaGreatDoor
set_option linter.unusedVariables false
set_option linter.unusedSimpArgs false
open Go.RowKit Go.Sort Go.Shelf Go.Lib

theorem MPO.ext {κ : Type} {enc : κ → Value} {good : κ → Prop} {w w' : World} {o : Option Nat} {m : List (κ × Value)} (h : MPO enc good w o m) (e : Ext w w') : MPO enc good w' o m := by
  cases o with
  | none => exact h
  | some b => exact MP.ext (show MP enc good w b m from h) e
theorem grown_putRow {α : Type} [Inhabited α] {enc : α → Value} {w : World} {g n : Nat} {os : Array Obj} (d : Array α) : w.grownBy (grow (putRow enc (Sort.ahead w n) g 0 d) os) (some g) := by
  refine ⟨rfl, rfl, rfl, by simp, fun k hk hne => ?_⟩
  rw [heap_grow_old _ _ (by simpa using hk)]
  have : g ≠ k := fun e => hne (by rw [e])
  simp [putRow, mapBlock, Sort.ahead, Array.getElem?_modify, this]
/-- A row's block is of type t. -/
def TG (t : TypeId) (w : World) (v : Value) : Prop := ∀ b off sp len cap, v = .slice (some ⟨b, off, sp⟩) len cap → 0 < len → ∃ c fz, w.heap[b]? = some (.cells c t fz)
theorem TG.ext {t : TypeId} {w w' : World} {v : Value} (h : TG t w v) (e : Ext w w') : TG t w' v := fun b off sp len cap h1 h2 => by
  obtain ⟨c, fz, h3⟩ := h b off sp len cap h1 h2
  exact ⟨c, fz, (e.block _ (Rg.lt_of_heap h3)).trans h3⟩
theorem TG.zero {t : TypeId} {w : World} {A : Option Addr} {c : Nat} : TG t w (.slice A 0 c) := fun b off sp len cap h1 h2 => by
  injection h1 with _ h1
  omega
theorem TG.of {t : TypeId} {w : World} {g o l k : Nat} {c : Array Value} {fz : Nat × Nat} (h : w.heap[g]? = some (.cells c t fz)) : TG t w (.slice (some ⟨g, o, none⟩) l k) := fun b off sp len cap h1 _ => by
  injection h1 with h1 _ _
  injection h1 with h1
  injection h1 with h1 _ _
  subst h1
  exact ⟨c, fz, h⟩
theorem tag_putRow {α : Type} [Inhabited α] {enc : α → Value} {w : World} {g n : Nat} {os : Array Obj} {cur : Array Value} {e : TypeId} {fr : Nat × Nat} (d : Array α) (hb : w.heap[g]? = some (.cells cur e fr)) :
    ∃ c, (grow (putRow enc (Sort.ahead w n) g 0 d) os).heap[g]? = some (.cells c e fr) := by
  have hg : g < w.heap.size := (Array.getElem?_eq_some_iff.1 hb).1
  rw [heap_grow_old _ _ (by simpa using hg)]
  simp [putRow, mapBlock, Sort.ahead, Array.getElem?_modify, hb, onCells]
instance : Inhabited Pl := ⟨⟨0, 0, ⟨#[]⟩, 0⟩⟩
def srtP (l : List Pl) : List Pl := l.mergeSort fun x y => !(ltOf cmpPl) y x
theorem srtP_perm (l : List Pl) : (srtP l).Perm l := List.mergeSort_perm _ _
theorem srtP_sorted (l : List Pl) : (srtP l).Pairwise fun x y => ltOf cmpPl y x = false := by
  have hs := List.pairwise_mergeSort (le := fun x y : Pl => !(ltOf cmpPl) y x) (fun a b c h1 h2 => by
    simp only [Bool.not_eq_true'] at *
    exact gcP.swo.ntrans c b a h2 h1) (fun a b => by
    simp only [Bool.or_eq_true, Bool.not_eq_true']
    by_cases h : ltOf cmpPl b a = true
    · refine .inr ?_
      cases h2 : ltOf cmpPl a b
      · rfl
      · have h3 := gcP.swo.trans a b a h2 h
        rw [gcP.swo.irrefl] at h3
        cases h3
    · exact .inl (by simpa using h)) l
  exact hs.imp (by simp)
theorem srtP_of_perm {l m : List Pl} (h : l.Perm m) : srtP l = srtP m := by
  have h1 : (srtP l).Perm (srtP m) := (srtP_perm l).trans (h.trans (srtP_perm m).symm)
  exact h1.eq_of_pairwise (le := fun x y => ltOf cmpPl y x = false) (fun a b _ _ h1 h2 => gcP.total a b h2 h1) (srtP_sorted l) (srtP_sorted m)
theorem plC_get (x : Pl) (j : Nat) (hj : j < 4) : (plC x)[j]? = some ((plC x)[j]!) := by
  rw [List.getElem?_eq_getElem (by simpa [plC] using hj), getElem!_pos (plC x) j (by simpa [plC] using hj)]
set_option maxRecDepth 100000 in
theorem sortP_own (B : Nat) (v : Value) (l : List Pl) (w : World) (hrow : w.ownsRow B 91 4 v l.length (l.flatMap plC)) (hn : l.length ≤ 1000000) :
    Calls Tryz.prog 73 #[v, .func (.func 31) #[] #[]] w fun e w' => e = .returned (.tuple #[]) ∧ SR plC 4 w' v (srtP l) ∧ Below B w w' ∧ TG 91 w' v := by
  by_cases h0 : l = []
  · subst h0
    obtain ⟨A, c, rfl⟩ := (SR.of_row (cs := plC) (fun _ => rfl) hrow (by simp)).form
    have hN := AnyF.slices_SortFunc_none sortP A c (.func (.func 31) #[] #[]) w
    change Calls Tryz.prog 73 _ _ _ at hN
    refine hN.mono ?_
    rintro e w1 ⟨rfl, rfl⟩
    exact ⟨rfl, ⟨A, c, by simp [srtP], by simp [srtP], .inl (by simp [srtP])⟩, Below.refl _ _, TG.zero⟩
  · have hp : 0 < l.length := List.length_pos_iff.2 h0
    rcases hrow.2 with ⟨-, h⟩ | ⟨g, cap, cur, rfl, hBg, hb, h1, h2, h3, h4⟩
    · omega
    · obtain ⟨-, hf, hlt⟩ := Rg.cells_of hb
      have hH : HoldsK plC 4 w g 0 l.toArray := fun t ht => by
        have ht' : t < l.length * 4 := by simpa using ht
        have hk : t / 4 < l.length := by omega
        refine ⟨?_, hf _⟩
        have hg := flat_get (cs := plC) (sz := 4) l (fun _ _ => rfl) (t / 4) hk (t % 4) _ (plC_get l[t / 4] (t % 4) (Nat.mod_lt _ (by decide)))
        rw [show t / 4 * 4 + t % 4 = t by omega] at hg
        have hc := hrow.cellAt t ht'
        rw [Nat.zero_add, hc, hg]
        show _ = some ((flatK plC 4 l.toArray)[t]!)
        rw [get_flatK _ _ _ _ (by simpa using ht')]
        congr 2
        rw [getElem!_pos l.toArray (t / 4) (by simpa using hk)]
        simp
      have hS := AnyQ.slices_SortFunc_total sortP 4 (fun w => Tryz.isAgg91 w) (fun w => Tryz.sizeOf91 w) plC (fun _ => rfl) (fun x u hu => by simp [plC] at hu; rcases hu with rfl | rfl | rfl | rfl <;> rfl) cmpPl gcP.swo 31 #[] g 0 cap l.toArray w
        (enters_of Tryz.func31 (by kernel_rfl) rfl) (Dw.compare_lays g 0 l.toArray.size w) hH hlt (by simp; omega) (fun x y a b => gcP.total x y a b)
      change Calls Tryz.prog 73 _ _ _ at hS
      have hsz : l.toArray.size = l.length := by simp
      rw [hsz] at hS
      refine hS.mono ?_
      rintro e w1 ⟨rfl, n, os, rfl⟩
      have hls : (srtP l).length = l.length := (srtP_perm l).length_eq
      have hH2 := holdsK_sortWorldK plC 4 w g 0 n l.toArray (srtP l).toArray os hlt hH (by simp [hls])
      have hG : w.grownBy (sortWorldK plC 4 w g 0 n (srtP l).toArray os) (some g) := grown_putRow _
      refine ⟨rfl, ⟨some ⟨g, 0, none⟩, cap, by rw [hls], by omega, .inr ⟨g, rfl, fun k hk j u hu => ?_⟩⟩, ⟨hG.os, hG.tape, hG.output, hG.size, fun k hk => hG.block k (by omega) (by simp; omega)⟩, (by
        obtain ⟨c, hc⟩ := tag_putRow (enc := id) (n := n) (os := os) (flatK plC 4 (srtP l).toArray) hb
        exact TG.of hc)⟩
      have hj : j < 4 := by have := (List.getElem?_eq_some_iff.1 hu).1; simpa [plC] using this
      have hh := (hH2 (k * 4 + j) (by simp; omega)).1
      rw [Nat.zero_add] at hh
      have hl2 : (srtP l).toArray = (l.toArray.toList.mergeSort fun x y => !(ltOf cmpPl) y x).toArray := by simp [srtP]
      rw [← hl2, hh]
      show some ((flatK plC 4 (srtP l).toArray)[k * 4 + j]!) = _
      rw [get_flatK _ _ _ _ (by simp; omega), show (k * 4 + j) / 4 = k by omega, show (k * 4 + j) % 4 = j by omega]
      rw [getElem!_pos (srtP l).toArray k (by simpa using hk)]
      rw [plC_get _ j hj] at hu
      simpa using hu
end Go.Proofs.YtnplnfkmcfalhaaGreatDoor
