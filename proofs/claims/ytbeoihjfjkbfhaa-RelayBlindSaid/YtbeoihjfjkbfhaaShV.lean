/-
  relay.shuffled: the texts of questions in the order of their hashes. Condition: each text has at most 4000 bytes.
-/
import Derived.Test.YtbeoihjfjkbfhaaShU
import Derived.Test.YtbeoihjfjkbfhaaRgD
namespace Go.Proofs.Ytbeoihjfjkbfhaa
set_option linter.unusedVariables false
set_option linter.unusedSimpArgs false
open Go.RowKit Go.Sort
abbrev Tx := { s : ByteArray // s.size ≤ 4000 }
instance : Inhabited Tx := ⟨⟨⟨#[]⟩, by decide⟩⟩
def cmpX (a b : Tx) : Int := cmpT a.1 b.1
theorem gcX : GC cmpX := gcT.via (fun a : Tx => a.1) (fun _ _ e => Subtype.ext e)
def srtT (l : List ByteArray) : List ByteArray := l.mergeSort fun x y => !(ltOf cmpT) y x
theorem srtT_perm (l : List ByteArray) : (srtT l).Perm l := List.mergeSort_perm _ _
theorem srtT_sorted (l : List ByteArray) : (srtT l).Pairwise fun x y => ltOf cmpT y x = false := by
  have hs := List.pairwise_mergeSort (le := fun x y : ByteArray => !(ltOf cmpT) y x) (fun a b c h1 h2 => by
    simp only [Bool.not_eq_true'] at *
    exact gcT.swo.ntrans c b a h2 h1) (fun a b => by
    simp only [Bool.or_eq_true, Bool.not_eq_true']
    by_cases h : ltOf cmpT b a = true
    · refine .inr ?_
      cases h2 : ltOf cmpT a b
      · rfl
      · have h3 := gcT.swo.trans a b a h2 h
        rw [gcT.swo.irrefl] at h3
        cases h3
    · exact .inl (by simpa using h)) l
  exact hs.imp (by simp)
theorem srtT_eq {l m : List ByteArray} (h : m.Perm l) (hs : m.Pairwise fun x y => ltOf cmpT y x = false) : m = srtT l :=
  (h.trans (srtT_perm l).symm).eq_of_pairwise (le := fun x y => ltOf cmpT y x = false) (fun a b _ _ h1 h2 => gcT.total a b h2 h1) hs (srtT_sorted l)
theorem srtT_of_perm {l m : List ByteArray} (h : l.Perm m) : srtT l = srtT m := srtT_eq ((srtT_perm l).trans h) (srtT_sorted l)
theorem srtT_len (l : List ByteArray) : (srtT l).length = l.length := (srtT_perm l).length_eq
theorem tx_lift : ∀ (l : List ByteArray), (∀ s ∈ l, s.size ≤ 4000) → ∃ m : List Tx, m.map Subtype.val = l
  | [], _ => ⟨[], rfl⟩
  | s :: l, h => by
    obtain ⟨m, rfl⟩ := tx_lift l (fun x hx => h x (by simp [hx]))
    exact ⟨⟨s, h s (by simp)⟩ :: m, rfl⟩
theorem srtX (m : List Tx) : (m.mergeSort fun x y => !(ltOf cmpX) y x).map Subtype.val = srtT (m.map Subtype.val) := by
  refine srtT_eq ((List.mergeSort_perm _ _).map _) ?_
  have hs := List.pairwise_mergeSort (le := fun x y : Tx => !(ltOf cmpX) y x) (fun a b c h1 h2 => by
    simp only [Bool.not_eq_true'] at *
    exact gcX.swo.ntrans c b a h2 h1) (fun a b => by
    simp only [Bool.or_eq_true, Bool.not_eq_true']
    by_cases h : ltOf cmpX b a = true
    · refine .inr ?_
      cases h2 : ltOf cmpX a b
      · rfl
      · have h3 := gcX.swo.trans a b a h2 h
        rw [gcX.swo.irrefl] at h3
        cases h3
    · exact .inl (by simpa using h)) m
  rw [List.pairwise_map]
  exact hs.imp (fun {a b} h => by
    have h2 : (!(ltOf cmpX) b a) = true := h
    rw [Bool.not_eq_true'] at h2
    exact h2)
def celS (s : ByteArray) : List Value := [.string s]
theorem celS_map (l : List ByteArray) : l.flatMap celS = l.map Value.string := by
  induction l with
  | nil => rfl
  | cons a l ih => simp [celS, ih]
def encX (x : Tx) : Value := .string x.1
theorem holds_blockX {w : World} {g : Nat} {cur : Array Value} {e : TypeId} {m : List Tx} (hb : w.heap[g]? = some (.cells cur e (0, 0))) (ht : cur.toList.take m.length = m.map encX) : Holds encX w g 0 m.toArray := by
  intro j hj
  have hj' : j < m.length := by simpa using hj
  refine ⟨?_, by simp [World.frozen?, hb]⟩
  have h1 : (cur.toList.take m.length)[j]? = (m.map encX)[j]? := by rw [ht]
  rw [List.getElem?_take_of_lt hj'] at h1
  simp only [World.cell?, hb, Nat.zero_add]
  rw [getElem!_pos m.toArray j (by simpa using hj')]
  simpa [hj'] using h1
theorem heap_putX {w : World} {g n : Nat} {os : Array Obj} {cur : Array Value} {e : TypeId} {fr : Nat × Nat} (d : Array Tx) (hb : w.heap[g]? = some (.cells cur e fr)) :
    (grow (putRow encX (Sort.ahead w n) g 0 d) os).heap[g]? = some (.cells (putCells encX 0 d cur) e fr) := by
  have hg : g < w.heap.size := (Array.getElem?_eq_some_iff.1 hb).1
  rw [heap_grow_old _ _ (by simpa using hg)]
  simp [putRow, mapBlock, Sort.ahead, Array.getElem?_modify, hb, onCells]
theorem take_putX (cur : Array Value) (ts : List Tx) (h : ts.length ≤ cur.size) : (putCells encX 0 ts.toArray cur).toList.take ts.length = ts.map encX := by
  apply List.ext_getElem?
  intro j
  by_cases hj : j < ts.length
  · rw [List.getElem?_take_of_lt hj, Array.getElem?_toList]
    simp [putCells, hj, show j < cur.size by omega]
  · rw [List.getElem?_take_eq_none (by omega), List.getElem?_eq_none (by simp; omega)]
theorem grown_putRow {α : Type} [Inhabited α] {enc : α → Value} {w : World} {g n : Nat} {os : Array Obj} (d : Array α) : w.grownBy (grow (putRow enc (Sort.ahead w n) g 0 d) os) (some g) := by
  refine ⟨rfl, rfl, rfl, by simp, fun k hk hne => ?_⟩
  rw [heap_grow_old _ _ (by simpa using hk)]
  have : g ≠ k := fun e => hne (by rw [e])
  simp [putRow, mapBlock, Sort.ahead, Array.getElem?_modify, this]
set_option maxRecDepth 100000 in
theorem sortT_own (B : Nat) (v : Value) (l : List ByteArray) (w : World) (hrow : w.ownsRow B 9 1 v l.length (l.flatMap celS)) (hs : ∀ s ∈ l, s.size ≤ 4000) (hn : l.length ≤ 1000000) :
    Calls Try.prog 38 #[v, .func (.func 39) #[] #[]] w fun e w' => e = .returned (.tuple #[]) ∧ w'.ownsRow B 9 1 v l.length ((srtT l).flatMap celS) ∧ w.grownBy w' v.ownBlock := by
  by_cases h0 : l = []
  · subst h0
    have hf : ∃ A c, v = .slice A 0 c := by
      rcases hrow.2 with ⟨rfl, -⟩ | ⟨g, cap, cur, rfl, -⟩
      · exact ⟨_, _, rfl⟩
      · exact ⟨_, _, rfl⟩
    obtain ⟨A, c, rfl⟩ := hf
    have hN := AnyF.slices_SortFunc_none sortS0 A c (.func (.func 39) #[] #[]) w
    change Calls Try.prog 38 _ _ _ at hN
    refine hN.mono ?_
    rintro e w1 ⟨rfl, rfl⟩
    exact ⟨rfl, by simpa [srtT] using hrow, ⟨rfl, rfl, rfl, Nat.le_refl _, fun _ _ _ => rfl⟩⟩
  · have hp : 0 < l.length := List.length_pos_iff.2 h0
    have hr2 := hrow
    rw [celS_map] at hr2
    obtain ⟨m, rfl⟩ := tx_lift l hs
    rcases hr2.2 with ⟨-, h⟩ | ⟨g, cap, cur, rfl, hBg, hb, h1, h2, h3, h4⟩
    · omega
    · rw [List.length_map] at *
      have htk : cur.toList.take m.length = m.map encX := by rw [← Nat.mul_one m.length, h4]; simp [encX]
      have hcs : m.length ≤ cur.size := by
        have := congrArg List.length htk
        simp at this
        omega
      have hH := holds_blockX hb htk
      have hS := Any.slices_SortFunc_total sortS encX (fun _ => rfl) cmpX gcX.swo 39 #[] g 0 cap m.toArray w
        (enters_of Try.func39 (by kernel_rfl) rfl) (fun k os dk _ x y => (calls_drawn (v := .int .i64 (cmpX x y)) (cmpT_any x.1 y.1 _ x.2 y.2) (fun _ _ h => h.1)).mono fun _ _ ⟨⟨a, b⟩, c⟩ => ⟨a, Dw.Ext.grow ⟨b.os, b.tape, b.output, b.size, b.block, c⟩⟩) hH (Rg.lt_of_heap hb) (by simp; omega) (fun x y a b => gcX.total x y a b)
      change Calls Try.prog 38 _ _ _ at hS
      have hsz : m.toArray.size = m.length := by simp
      rw [hsz] at hS
      have hlt : (m.mergeSort fun x y => !(ltOf cmpX) y x).length = m.length := (List.mergeSort_perm _ _).length_eq
      have hsx := srtX m
      refine hS.mono ?_
      rintro e w1 ⟨rfl, q, os, hw1⟩
      subst hw1
      change _ ∧ World.ownsRow _ _ _ _ _ _ _ ∧ _
      generalize (m.mergeSort fun x y => !(ltOf cmpX) y x) = ts at *
      rw [← hsx]
      refine ⟨rfl, ⟨?_, .inr ⟨g, cap, _, rfl, hBg, heap_putX ts.toArray hb, h1, h2, ?_, ?_⟩⟩, grown_putRow _⟩
      · rw [celS_map]; simp [hlt]
      · simpa [putCells] using h3
      · rw [celS_map, Nat.mul_one, ← hlt, take_putX cur ts (by omega)]
        simp [encX]
end Go.Proofs.Ytbeoihjfjkbfhaa
