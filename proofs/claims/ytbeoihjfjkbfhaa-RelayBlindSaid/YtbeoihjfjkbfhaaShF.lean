/-
  Rows of bytes that a call has made: what was stored beyond what they hold; appends. Nothing is asked.
-/
import Derived.Test.YtbeoihjfjkbfhaaShE
import Derived.Laws.IdiomStrings
namespace Go.Proofs.Ytbeoihjfjkbfhaa
set_option linter.unusedVariables false
set_option linter.unusedSimpArgs false
open Go.RowKit

section
variable (P : Program)
theorem run_storeCells_fr (g o : Nat) (t : TypeId) (fr : Nat × Nat) : ∀ (vs : List Value) (i : Nat) (cur : Array Value) (w : World), w.heap[g]? = some (.cells cur t fr) → (fr = (0, 0) ∨ o + i + vs.length ≤ fr.1) → o + i + vs.length ≤ cur.size → (∀ v ∈ vs, v.oneCell' = true) →
    (storeCells ⟨g, o, none⟩ vs i).run P w = .ok () (w.setRow g (cur.toList.take (o + i) ++ vs ++ cur.toList.drop (o + i + vs.length)).toArray)
  | [], i, cur, w, hg, _, _, _ => by
    simp only [storeCells, List.append_nil, List.length_nil, Nat.add_zero, List.take_append_drop, Array.toArray_toList]
    rw [setRow_self w g cur t fr hg]
    rfl
  | v :: rest, i, cur, w, hg, hf, hl, h1 => by
    have hi : o + i < cur.size := by simp at hl; omega
    have hadd : (⟨g, o, none⟩ : Addr).add i = ⟨g, o + i, none⟩ := by unfold Addr.add; split <;> simp_all
    have hcell : w.cell? ⟨g, o + i, none⟩ = some cur[o + i] := by simp [World.cell?, hg, hi]
    have hfro : w.frozen? ⟨g, o + i, none⟩ = false := by
      obtain ⟨lo, hi'⟩ := fr
      rcases hf with h | h
      · cases h
        simp [World.frozen?, hg]
      · simp only [List.length_cons] at h
        have : ¬ lo ≤ o + i := by omega
        simp [World.frozen?, hg, this]
    have hst : (store ((⟨g, o, none⟩ : Addr).add i) v).run P w = .ok () (w.setRow g (cur.setIfInBounds (o + i) v)) := by
      rw [hadd, run_store P w _ v _ (h1 v (by simp)), hcell]
      simp [hfro, setCell_eq_setRow w g (o + i) cur t fr v hg]
    have ih := run_storeCells_fr g o t fr rest (i + 1) (cur.setIfInBounds (o + i) v) (w.setRow g (cur.setIfInBounds (o + i) v)) (setRow_heap w g cur _ t _ hg) (hf.imp id (fun h => by simp at h ⊢; omega)) (by simp at hl ⊢; omega) (fun x hx => h1 x (by simp [hx]))
    simp only [storeCells, Sem.run_bind, hst, Result.andThen_ok, ih, setRow_setRow]
    congr 3
    have e := list_seg_step cur.toList (o + i) v rest (by simp at hl ⊢; omega)
    simpa [Array.toList_setIfInBounds, Nat.add_assoc] using e
end

/-- A row of bytes that the call has made: it lies from B on, holds l, and has room of its own that may be written. -/
def BY (B : Nat) (w : World) (v : Value) (l : List Int) : Prop :=
  ∃ (g cap : Nat) (cur : Array Value) (fr : Nat × Nat), v = .slice (some ⟨g, 0, none⟩) l.length cap ∧ B ≤ g ∧ w.heap[g]? = some (.cells cur 5 fr) ∧ (fr = (0, 0) ∨ cap ≤ fr.1) ∧ cur.size = cap ∧ l.length ≤ cap ∧ cur.toList.take l.length = l.map (Value.int .u8)
theorem info5 : (Try.prog.info? 5).map (fun i => (i.zero, i.size, i.bytes)) = some (some (Value.int .u8 0), 1, 1) := by kernel_rfl
theorem run_append_by (B : Nat) (v : Value) (l : List Int) (w : World) (h : BY B w v l) (hB : B ≤ w.heap.size) (a : Addr) (m c : Nat) (ns : List Int) (hm : ns.length = m) (hn : ∀ j x, ns[j]? = some x → w.cell? (a.add j) = some (.int .u8 x)) (hs : l.length + m ≤ 1000000) (ty : TypeId) :
    ∃ v' w', (Builtin.append_ #[51, 51] ty #[v, .slice (some a) m c]).run Try.prog w = .ok v' w' ∧ BY B w' v' (l ++ ns) ∧ Below B w w' := by
  obtain ⟨i0, hi, hz0, hz1, hz2⟩ := info_parts info5
  obtain ⟨g, cap, cur, fr, rfl, hBg, hg, hfr, hcs, hlc, htk⟩ := h
  have hnews : ∀ j u, (ns.map (Value.int .u8))[j]? = some u → w.cell? (a.add j) = some u := by
    intro j u hu
    rw [List.getElem?_map] at hu
    obtain ⟨x, hx, rfl⟩ := Option.map_eq_some_iff.1 hu
    exact hn j x hx
  have h1 : ∀ u ∈ ns.map (Value.int .u8), u.oneCell' = true := by
    intro u hu
    obtain ⟨x, -, rfl⟩ := List.mem_map.1 hu
    rfl
  have hl : (ns.map (Value.int .u8)).length = m * i0.size := by rw [hz1]; simp [hm]
  by_cases hroom : l.length + m ≤ cap
  · have hf := run_firstCells_some (P := Try.prog) w i0.size m a m c (ns.map (Value.int .u8)) hl hnews
    have hst := run_storeCells_fr Try.prog g (l.length * i0.size) 5 fr (ns.map (Value.int .u8)) 0 cur w hg (hfr.imp id (fun h => by rw [hz1]; simp [hm]; omega)) (by rw [hz1]; simp [hm]; omega) h1
    simp only [Nat.add_zero] at hst
    refine ⟨.slice (some ⟨g, 0, none⟩) (l.length + m) cap, w.setRow g (cur.toList.take (l.length * i0.size) ++ ns.map (Value.int .u8) ++ cur.toList.drop (l.length * i0.size + (ns.map (Value.int .u8)).length)).toArray, ?_, ⟨g, cap, _, fr, by simp [hm], hBg, setRow_heap _ _ _ _ _ _ hg, hfr, ?_, by simp; omega, ?_⟩, below_setRow (Below.refl _ _) hBg _⟩
    · simp [Builtin.append_, run_underlying Try.underlying51, sizeOf, typeInfo, hi, Builtin.lenOf, hroom, hf, Addr.add_lit, hst]
    · rw [hz1]
      simp [hm]
      omega
    · rw [hz1, Nat.mul_one, htk]
      simp only [List.map_append]
      exact List.take_left' (by simp)
  · have holds : ∀ j u, (l.map (Value.int .u8))[j]? = some u → w.cell? ((⟨g, 0, none⟩ : Addr).add j) = some u := by
      intro j u hu
      have hj : j < l.length := by have := (List.getElem?_eq_some_iff.1 hu).1; simpa using this
      have hadd : (⟨g, 0, none⟩ : Addr).add j = ⟨g, j, none⟩ := by unfold Addr.add; split <;> simp_all
      rw [hadd, cell_of_row _ _ _ _ _ _ hg, ← hu, ← htk, List.getElem?_take]
      simp [hj]
    have hr := run_append_grow (P := Try.prog) w 51 ty 5 i0 (.int .u8 0) Try.underlying51 hi hz0 ⟨g, 0, none⟩ l.length cap (l.map (Value.int .u8)) (by rw [hz1]; simp) holds a m c (ns.map (Value.int .u8)) hl hnews (by omega) (by omega) (growslice_fits (by omega) (by rw [hz2]; omega))
    have hge := grownCap_ge w (l.length + m) cap 5
    refine ⟨_, _, hr, ⟨w.heap.size, grownCap w (l.length + m) cap 5, _, (0, 0), by simp [hm], hB, alloc_at w.drew _, .inl rfl, ?_, by simp; omega, ?_⟩, (Below.refl _ _).drew.alloc hB _⟩
    · simp [size_zeroCells, hm]
      rw [show (Value.int IntKind.u8 0).cells.size = 1 from rfl]
      omega
    · simp only [Array.toList_append, List.map_append]
      exact List.take_left' (by simp)
theorem zeroCells_list (n : Nat) : (Builtin.zeroCells (Value.int .u8 0).cells n).toList = (List.replicate n (0 : Int)).map (Value.int .u8) := by
  apply List.ext_getElem
  · simp [Builtin.zeroCells]
    exact Nat.mul_one n
  · intro i h1 h2
    simp [Builtin.zeroCells, Value.cells]
    rw [Nat.mod_one]
    rfl
/-- 'append(v, make([]byte, n)...)'. -/
theorem run_append_zeros (B : Nat) (v : Value) (l : List Int) (w : World) (h : BY B w v l) (hB : B ≤ w.heap.size) (n : Nat) (hs : l.length + n ≤ 1000000) (ty : TypeId) :
    ∃ v' w', (Builtin.append_ #[51, 3] ty #[v, .int .i64 n]).run Try.prog w = .ok v' w' ∧ BY B w' v' (l ++ List.replicate n 0) ∧ Below B w w' := by
  obtain ⟨i0, hi, hz0, hz1, hz2⟩ := info_parts info5
  obtain ⟨g, cap, cur, fr, rfl, hBg, hg, hfr, hcs, hlc, htk⟩ := h
  have hwr : IntKind.i64.wrap (n : Int) = n := by rw [IntKind.wrap_i64]; omega
  have h48 : ¬ ((281474976710656 : Int) < n) := by omega
  have hneg : ¬ ((n : Int) < 0) := by omega
  have hzl := zeroCells_list n
  by_cases hroom : l.length + n ≤ cap
  · have hst := run_storeCells_fr Try.prog g (l.length * i0.size) 5 fr ((List.replicate n (0 : Int)).map (Value.int .u8)) 0 cur w hg (hfr.imp id (fun h => by rw [hz1]; simp; omega)) (by rw [hz1]; simp; omega) (by
      intro u hu
      obtain ⟨x, -, rfl⟩ := List.mem_map.1 hu
      rfl)
    simp only [Nat.add_zero] at hst
    refine ⟨.slice (some ⟨g, 0, none⟩) (l.length + n) cap, w.setRow g (cur.toList.take (l.length * i0.size) ++ (List.replicate n (0 : Int)).map (Value.int .u8) ++ cur.toList.drop (l.length * i0.size + ((List.replicate n (0 : Int)).map (Value.int .u8)).length)).toArray, ?_, ⟨g, cap, _, fr, by simp, hBg, setRow_heap _ _ _ _ _ _ hg, hfr, ?_, by simp; omega, ?_⟩, below_setRow (Below.refl _ _) hBg _⟩
    · by_cases hn : n = 0
      · subst hn
        simp only [List.replicate_zero, List.map_nil] at hst
        simp [Builtin.append_, run_underlying Try.underlying51, run_underlying Try.underlying3, sizeOf, typeInfo, hi, hz2, asInt, asIntOf, hlc, show IntKind.i64.wrap 0 = 0 from by decide, Addr.add_lit, hst]
      · simp [Builtin.append_, run_underlying Try.underlying51, run_underlying Try.underlying3, sizeOf, typeInfo, hi, hz2, hz1, asInt, asIntOf, hwr, h48, hneg, hroom, Addr.add_lit, zeroValue, hz0, hzl, hst, hn]
        simp [hz1] at hst
        simp [hst]
    · rw [hz1]
      simp
      omega
    · rw [hz1, Nat.mul_one, htk]
      simp only [List.map_append]
      exact List.take_left' (by simp)
  · have hnr : ¬ (l.length + n ≤ cap) := hroom
    have hn0 : n ≠ 0 := by omega
    have holds : ∀ j u, (l.map (Value.int .u8))[j]? = some u → w.drew.cell? ((⟨g, 0, none⟩ : Addr).add j) = some u := by
      intro j u hu
      have hj : j < l.length := by have := (List.getElem?_eq_some_iff.1 hu).1; simpa using this
      have hadd : (⟨g, 0, none⟩ : Addr).add j = ⟨g, j, none⟩ := by unfold Addr.add; split <;> simp_all
      rw [hadd]
      refine (cell_of_row w.drew g j cur 5 fr hg).trans ?_
      rw [← hu, ← htk, List.getElem?_take]
      simp [hj]
    have hfo := run_firstCells_some (P := Try.prog) w.drew i0.size l.length ⟨g, 0, none⟩ l.length cap (l.map (Value.int .u8)) (by rw [hz1]; simp) holds
    have hfit := growslice_fits (need := l.length + n) (old := cap) (bytes := 1) (by omega) (by omega)
    have hge := grownCap_ge w (l.length + n) cap 5
    have h63 : ¬ ((9223372036854775807 : Int) < (l.length : Int) + (n : Int)) := by omega
    have h48' : ¬ (281474976710656 < Builtin.nextslicecap (l.length + n) cap) := by omega
    refine ⟨.slice (some ⟨w.heap.size, 0, none⟩) (l.length + n) (grownCap w (l.length + n) cap 5), w.drew.alloc (.cells ((l.map (Value.int .u8)).toArray ++ Builtin.zeroCells (Value.int .u8 0).cells n ++ Builtin.zeroCells (Value.int .u8 0).cells (grownCap w (l.length + n) cap 5 - (l.length + n))) 5), ?_, ⟨w.heap.size, grownCap w (l.length + n) cap 5, _, (0, 0), by simp, hB, alloc_at w.drew _, .inl rfl, ?_, by simp; omega, ?_⟩, (Below.refl _ _).drew.alloc hB _⟩
    · simp [Builtin.append_, run_underlying Try.underlying51, run_underlying Try.underlying3, sizeOf, typeInfo, hi, hz2, hz1, asInt, asIntOf, hwr, h48, hneg, hnr, h63, h48', zeroValue, hz0, hn0, Question.forced, newRow, grownCap]
      simp [hz1] at hfo
      simp [hfo]
    · simp [size_zeroCells]
      rw [show (Value.int IntKind.u8 0).cells.size = 1 from rfl]
      omega
    · simp only [Array.toList_append, List.map_append, hzl]
      exact List.take_left' (by simp)
def bytesI (s : ByteArray) : List Int := s.data.toList.map fun b => (b.toNat : Int)
theorem bytesI_len (s : ByteArray) : (bytesI s).length = s.size := by
  unfold bytesI
  rw [List.length_map, Array.length_toList]
  rfl
theorem run_conv_by (s : ByteArray) (w : World) : ∃ v w', (convert 9 51 (.string s)).run Try.prog w = .ok v w' ∧ BY w.heap.size w' v (bytesI s) ∧ Ext w w' := by
  have hr := run_bytes_of_string (P := Try.prog) w 9 51 5 s Try.underlying9 Try.underlying51 Try.underlying5
  have hge := grownCap_ge w s.size 0 5
  refine ⟨_, _, hr, ⟨w.heap.size, grownCap w s.size 0 5, _, _, by rw [bytesI_len], Nat.le_refl _, alloc_at w.drew _, .inr ?_, ?_, by rw [bytesI_len]; exact hge, ?_⟩, (Ext.refl w).drew.alloc _⟩
  · have : s.data.size = s.size := rfl
    simp [bytesRow]
    omega
  · have : s.data.size = s.size := rfl
    simp [bytesRow]
    omega
  · rw [bytesI_len]
    unfold bytesRow bytesI
    rw [Array.toList_append, List.take_left' (by simp)]
    simp
end Go.Proofs.Ytbeoihjfjkbfhaa
