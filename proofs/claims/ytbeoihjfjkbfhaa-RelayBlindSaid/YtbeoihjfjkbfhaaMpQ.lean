/-
  Questions and ints as keys of maps; delete. Nothing is asked.
-/
import Derived.Test.YtbeoihjfjkbfhaaMp
import Derived.Test.YtbeoihjfjkbfhaaShW
import Derived.DeepKeys4
import Derived.LoopTactic
import Derived.Deep.CutBlock
namespace Go.Proofs.Ytbeoihjfjkbfhaa
set_option linter.unusedVariables false
set_option linter.unusedSimpArgs false
open Go.RowKit Go.MapKept Go.ChangeMaps
open Go.Maps (Keyed)
theorem map_erase {α β : Type} (f : α → β) : ∀ (l : List α) (j : Nat), (l.eraseIdx j).map f = (l.map f).eraseIdx j
  | [], _ => rfl
  | _ :: _, 0 => rfl
  | a :: l, j + 1 => by simp [map_erase f l j]
theorem erase_filter {κ β : Type} [DecidableEq κ] : ∀ (l : List (κ × β)) (j : Nat) (x : κ) (v : β), (l.map (·.1)).Nodup → l[j]? = some (x, v) → l.eraseIdx j = l.filter (fun p => decide (p.1 ≠ x))
  | [], j, x, v, _, h => by simp at h
  | p :: l, 0, x, v, hn, h => by
    simp only [List.getElem?_cons_zero, Option.some.injEq] at h
    subst h
    simp only [List.map_cons, List.nodup_cons] at hn
    simp only [List.eraseIdx_cons_zero, List.filter_cons, ne_eq, not_true_eq_false, decide_false, Bool.false_eq_true, if_false]
    refine (List.filter_eq_self.2 fun q hq => ?_).symm
    rw [decide_eq_true_eq]
    rintro rfl
    exact hn.1 (List.mem_map.2 ⟨q, hq, rfl⟩)
  | p :: l, j + 1, x, v, hn, h => by
    simp only [List.map_cons, List.nodup_cons] at hn
    have h2 : l[j]? = some (x, v) := by simpa using h
    have hne : p.1 ≠ x := by
      rintro rfl
      exact hn.1 (List.mem_map.2 ⟨_, List.mem_of_getElem? h2, rfl⟩)
    rw [List.eraseIdx_cons_succ, erase_filter l j x v hn.2 h2, List.filter_cons, if_pos (by simpa using hne)]
section
variable {κ : Type} [DecidableEq κ] {enc : κ → Value} {good : κ → Prop} {P : Program} {k e t : TypeId} {w w' : World} {b : Nat} {l : List (κ × Value)}
theorem MP.delete (K : KE P k enc good) (ht : P.underlying t = some (.map k e)) (h : MP enc good w b l) {x : κ} (hx : good x) (k2 ty : TypeId) :
    ∃ w', (Builtin.delete_ #[t, k2] ty #[.map (some b), enc x]).run P w = .ok (.tuple #[]) w' ∧ MP enc good w' b (l.filter fun p => decide (p.1 ≠ x)) ∧ w.grownBy w' (some b) := by
  have h0 := h
  obtain ⟨h1, h2, es, clock, hb, hes, hst⟩ := h
  obtain ⟨li, hli⟩ := K.lit x hx
  have hsub : ∀ p ∈ l.filter (fun p => decide (p.1 ≠ x)), good p.1 := fun p hp => h1 p (List.mem_filter.1 hp).1
  have hnd : ((l.filter (fun p => decide (p.1 ≠ x))).map (·.1)).Nodup := h2.sublist (List.filter_sublist.map _)
  rcases MP.find K h0 hx hes with ⟨hf, hl⟩ | ⟨j, v0, hf, hl, e0, hj, hek, hev, hlj⟩
  · have hm := lookup_none.1 hl
    have hfl : l.filter (fun p => decide (p.1 ≠ x)) = l := List.filter_eq_self.2 fun q hq => by
      rw [decide_eq_true_eq]
      rintro rfl
      exact hm (List.mem_map.2 ⟨q, hq, rfl⟩)
    rw [hfl]
    refine ⟨setBlock w b (.map es clock), ?_, ⟨h1, h2, _, _, heap_setBlock_same hb _, hes, hst⟩, ⟨rfl, rfl, rfl, by simp [setBlock], fun i _ hi => heap_setBlock_other hb _ (fun e => hi (by rw [e]))⟩⟩
    simp [Builtin.delete_, run_underlying ht, MapKept.run_getObj_map hb, K.keyed.check w _ hli, hf, Result.andThen, MapKept.run_setObj_map _ hb]
    rfl
  · have hel := erase_filter l j x v0 h2 hlj
    refine ⟨setBlock w b (.map (es.eraseIdxIfInBounds j) clock), ?_, ⟨hsub, hnd, _, _, heap_setBlock_same hb _, ?_, MapKept.stamped_erase hst j⟩, ⟨rfl, rfl, rfl, by simp [setBlock], fun i _ hi => heap_setBlock_other hb _ (fun e => hi (by rw [e]))⟩⟩
    · simp [Builtin.delete_, run_underlying ht, MapKept.run_getObj_map hb, K.keyed.check w _ hli, hf, Result.andThen, MapKept.run_setObj_map _ hb]
      rfl
    · rw [← hel]
      have e1 : (es.eraseIdxIfInBounds j).toList = es.toList.eraseIdx j := by
        rw [Array.eraseIdxIfInBounds_eq]
        split
        · simp
        · rename_i hlt
          rw [List.eraseIdx_of_length_le (by simpa using hlt)]
      rw [e1, map_erase, map_erase, hes]
theorem wpList_delete (ops : Array Oper) {rest : List Oper} {o : Oper} {a : Act} {Q : Exit → Act → World → Prop} (hg : o.guard = none) (m x : Operand) (t k2 : TypeId) (hop : o.op = Op.call { callee := Callee.builtin Builtin.delete, args := #[m, x], argTypes := #[t, k2] })
    (k e : TypeId) (K : KE P k enc good) (ht : P.underlying t = some (.map k e)) (b : Nat) (l : List (κ × Value)) (hm : a.eval m = .map (some b)) (h : MP enc good w b l) (key : κ) (hx : a.eval x = enc key) (hgd : good key)
    (hK : ∀ w', MP enc good w' b (l.filter fun p => decide (p.1 ≠ key)) → w.grownBy w' (some b) → wpList P ops Q rest (a.put o.dst (.tuple #[])) w') : wpList P ops Q (o :: rest) a w := by
  refine wpList_plain hg fun K' hK' => ?_
  obtain ⟨w', hrun, r1, r2⟩ := h.delete K ht hgd k2 o.type
  unfold Oper.wp
  simp [execOp, hop, resolve, invoke, builtin, hm, hx, hrun, Result.andThen]
  exact hK' _ _ (hK w' r1 r2)
end
/-- An int of the machine. -/
def OkI (a : Int) : Prop := -9223372036854775808 ≤ a ∧ a ≤ 9223372036854775807
theorem OkI.wf {a : Int} (h : OkI a) : (Lit.int .i64 a).wf = true := by
  obtain ⟨h1, h2⟩ := h
  simp [Lit.wf, IntKind.min, IntKind.max, IntKind.signed, IntKind.bits]
  omega
abbrev encI (i : Int) : Value := .int .i64 i
abbrev encQ (q : Qn) : Value := .agg #[.int .i64 q.who, .string q.text]
def OkQ (q : Qn) : Prop := OkI q.who ∧ q.text.size ≤ 4000
instance : DecidableEq Qn := fun a b => by
  obtain ⟨a1, a2⟩ := a
  obtain ⟨b1, b2⟩ := b
  rw [Qn.mk.injEq]
  infer_instance
theorem laid : laidOutB Try.prog = true := by kernel_rfl
theorem c3 : Try.prog.cellsOf 3 = 1 := by kernel_rfl
theorem c9 : Try.prog.cellsOf 9 = 1 := by kernel_rfl
theorem c66 : Try.prog.cellsOf 66 = 2 := by kernel_rfl
theorem lits3 (d : Nat) {a : Int} (h : OkI a) : Try.prog.keyLits (d + 1) 3 [.int .i64 a] = some [.int .i64 a] := by
  simp [Program.keyLits, Try.underlying3, h.wf]
theorem lits9 (d : Nat) {s : ByteArray} (h : s.size ≤ maxLen) : Try.prog.keyLits (d + 1) 9 [.string s] = some [.string s.data.toList] := by
  simp [Program.keyLits, Try.underlying9, h]
theorem lits66 (d : Nat) {a : Int} {s : ByteArray} (ha : OkI a) (hs : s.size ≤ maxLen) : Try.prog.keyLits (d + 2) 66 [.int .i64 a, .string s] = some [.int .i64 a, .string s.data.toList] := by
  unfold Program.keyLits
  rw [Try.underlying66]
  simp [c66, c3, c9, lits3 d ha, lits9 d hs]
theorem keI : KE Try.prog 3 encI OkI := ⟨Go.Maps.int_keyed Try.underlying3, fun a b h => by injection h, fun a h => ⟨_, Go.Maps.keyOf_int_mk Try.underlying3 h.wf⟩⟩
theorem keQ : KE Try.prog 66 encQ OkQ := ⟨Go.Maps.Keyed.of_law (deep_law_laid laid (m := 9) (by omega) (of_decide_eq_true (by kernel_rfl)) (by kernel_rfl) (by kernel_rfl)), fun a b h => by
    obtain ⟨a1, a2⟩ := a
    obtain ⟨b1, b2⟩ := b
    simpa using h, fun a h => by
    have h1 : Try.prog.keyType 66 = true := by kernel_rfl
    have h2 : Try.prog.types.size + 1 = 138 + 2 := by kernel_rfl
    refine ⟨.string (keyBytes [.int .i64 a.who, .string a.text.data.toList]), ?_⟩
    unfold keyOf
    rw [h2]
    simp [Try.underlying66, h1, Value.formed, c66, Value.cells, lits66 138 h.1 (show a.text.size ≤ maxLen by have := h.2; unfold maxLen; omega)]⟩
end Go.Proofs.Ytbeoihjfjkbfhaa
