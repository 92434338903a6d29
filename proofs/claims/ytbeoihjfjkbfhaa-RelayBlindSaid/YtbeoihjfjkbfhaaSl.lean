/-
  Slices of structs and of ints that read as lists; rows of structs in blocks. Nothing is asked.
-/
import Derived.Test.YtbeoihjfjkbfhaaRp
import Derived.Deep.AppendLies
import Derived.Laws.Rows
import Derived.Laws.CopyRow
namespace Go.Proofs.Ytbeoihjfjkbfhaa
set_option linter.unusedVariables false
set_option linter.unusedSimpArgs false
open Go.RowKit

theorem addr_add (g j : Nat) : (⟨g, 0, none⟩ : Addr).add j = ⟨g, j, none⟩ := by
  unfold Addr.add
  split
  · rename_i h; rw [h]
  · simp
/-- The slice v reads as xs, each of sz cells. -/
def SR {α : Type} (cs : α → List Value) (sz : Nat) (w : World) (v : Value) (xs : List α) : Prop :=
  ∃ base cap, v = .slice base xs.length cap ∧ xs.length ≤ 1000000 ∧ (xs = [] ∨ ∃ b, base = some ⟨b, 0, none⟩ ∧ ∀ k (h : k < xs.length) j u, (cs xs[k])[j]? = some u → w.cell? ⟨b, k * sz + j, none⟩ = some u)
theorem SR.ext {α : Type} {cs : α → List Value} {sz : Nat} {w w' : World} {v : Value} {xs : List α} (h : SR cs sz w v xs) (e : Ext w w') : SR cs sz w' v xs := by
  obtain ⟨base, cap, h1, h2, h3⟩ := h
  exact ⟨base, cap, h1, h2, h3.imp id fun ⟨b, hb, hc⟩ => ⟨b, hb, fun k hk j u hu => (e.cells.1 _ _ (World.block_lt_of_cell? w _ (hc k hk j u hu))).trans (hc k hk j u hu)⟩⟩
theorem SR.form {α : Type} {cs : α → List Value} {sz : Nat} {w : World} {v : Value} {xs : List α} (h : SR cs sz w v xs) : ∃ base cap, v = .slice base xs.length cap := by
  obtain ⟨base, cap, h1, -⟩ := h
  exact ⟨base, cap, h1⟩
theorem SR.le {α : Type} {cs : α → List Value} {sz : Nat} {w : World} {v : Value} {xs : List α} (h : SR cs sz w v xs) : xs.length ≤ 1000000 := by
  obtain ⟨base, cap, h1, h2, -⟩ := h
  exact h2
/-- The block, where there is an element. -/
theorem SR.block {α : Type} {cs : α → List Value} {sz : Nat} {w : World} {base : Option Addr} {n c : Nat} {xs : List α} (h : SR cs sz w (.slice base n c) xs) (k : Nat) (hk : k < xs.length) :
    ∃ b, base = some ⟨b, 0, none⟩ ∧ n = xs.length ∧ ∀ k (h : k < xs.length) j u, (cs xs[k])[j]? = some u → w.cell? ⟨b, k * sz + j, none⟩ = some u := by
  obtain ⟨base', cap, h1, h2, h3⟩ := h
  injection h1 with e1 e2 e3
  subst e1 e2
  obtain ⟨b, hb, hc⟩ := h3.resolve_left (by intro e; rw [e] at hk; simp at hk)
  exact ⟨b, hb, rfl, hc⟩
theorem flat_get {α : Type} {cs : α → List Value} {sz : Nat} : ∀ (us : List α) (_ : ∀ x ∈ us, (cs x).length = sz) (k : Nat) (h : k < us.length) (j : Nat) (u : Value), (cs us[k])[j]? = some u → (us.flatMap cs)[k * sz + j]? = some u
  | x :: us, hl, 0, h, j, u, hu => by
    have hj : j < (cs x).length := (List.getElem?_eq_some_iff.1 hu).1
    rw [List.flatMap_cons, List.getElem?_append_left (by omega), Nat.zero_mul, Nat.zero_add]
    exact hu
  | x :: us, hl, k + 1, h, j, u, hu => by
    have h1 := hl x List.mem_cons_self
    have h2 : (k + 1) * sz = k * sz + sz := Nat.succ_mul k sz
    rw [List.flatMap_cons, List.getElem?_append_right (by omega), show (k + 1) * sz + j - (cs x).length = k * sz + j by omega]
    exact flat_get us (fun y hy => hl y (List.mem_cons_of_mem _ hy)) k (by simpa using h) j u hu
theorem SR.of_row {α : Type} {cs : α → List Value} {sz : Nat} (hl : ∀ x, (cs x).length = sz) {B E : Nat} {w : World} {v : Value} {xs : List α} (h : w.ownsRow B E sz v xs.length (xs.flatMap cs)) (hn : xs.length ≤ 1000000) : SR cs sz w v xs := by
  by_cases h0 : xs = []
  · subst h0
    rcases h.2 with ⟨hn, -⟩ | ⟨g, cap, cur, hv, -⟩
    · exact ⟨none, 0, hn, by simp, .inl rfl⟩
    · exact ⟨_, cap, hv, by simp, .inl rfl⟩
  · have hp : 0 < xs.length := List.length_pos_iff.2 h0
    obtain ⟨g, cap, rfl, -, hlt⟩ := h.form hp
    refine ⟨_, cap, rfl, hn, .inr ⟨g, rfl, fun k hk j u hu => ?_⟩⟩
    have h1 := flat_get xs (fun x _ => hl x) k hk j u hu
    rw [h.cellAt (k * sz + j) (by rw [← h.1]; exact (List.getElem?_eq_some_iff.1 h1).1)]
    exact h1
theorem row_ext {B E sz n : Nat} {w w' : World} {v : Value} {xs : List Value} (ho : w.ownsRow B E sz v n xs) (e : Ext w w') : w'.ownsRow B E sz v n xs := by
  refine ⟨ho.1, ?_⟩
  rcases ho.2 with hn | ⟨g, cap, cur, hv, hb, hg, rest⟩
  · exact .inl hn
  · exact .inr ⟨g, cap, cur, hv, hb, (e.block g (Rg.lt_of_heap hg)).trans hg, rest⟩

/-- 'append' of one element, which lies in a block of its own. -/
theorem append_one {α : Type} {cs : α → List Value} {sz : Nat} (hl : ∀ x, (cs x).length = sz ∧ ∀ c ∈ cs x, c.oneCell' = true) (T E bytes : Nat) {z : Value} (hT : Try.prog.underlying T = some (.slice E))
    (hinfo : (Try.prog.info? E).map (fun i => (i.zero, i.size, i.bytes)) = some (some z, sz, bytes)) (hz : z.cells.size = sz) (h0 : 0 < sz) (hby : bytes ≤ 100000)
    {ops : Array Oper} {rest : List Oper} {o : Oper} {a : Act} {Q : Exit → Act → World → Prop} {w : World} (hgd : o.guard = none) (s x : Operand)
    (ho : o.op = .call { callee := .builtin .append, args := #[s, x], argTypes := #[T, T] }) (B : Nat) (v : Value) (vs : List α) (hs : a.eval s = v) (hF : w.ownsRow B E sz v vs.length (vs.flatMap cs))
    (p : Nat) (u : α) (hx : a.eval x = .slice (some ⟨p, 0, none⟩) 1 1) (hp : w.heap[p]? = some (.cells (cs u).toArray E)) (hn : vs.length < 1000000) (hB : B ≤ w.heap.size)
    (h : ∀ g cap w', w'.ownsRow B E sz (.slice (some ⟨g, 0, none⟩) (vs.length + 1) cap) (vs ++ [u]).length ((vs ++ [u]).flatMap cs) → Below B w w' → wpList Try.prog ops Q rest (a.put o.dst (.slice (some ⟨g, 0, none⟩) (vs.length + 1) cap)) w') : wpList Try.prog ops Q (o :: rest) a w := by
  obtain ⟨i0, hi, hz0, hz1, hz2⟩ := info_parts hinfo
  refine wpList_append_lies w hgd s x T ho B E i0 _ sz bytes hT hi hz0 hz1 hz2 hz h0 v vs.length _ hs hF ⟨p, 0, none⟩ 1 1 (cs u) hx (by rw [(hl u).1, Nat.one_mul]) ?_ (hl u).2 (by decide) (by unfold maxLen; omega) ?_ hB w.heap.size rfl ?_
  · intro j c hc
    rw [addr_add, cell_of_row w p _ _ _ _ hp]
    simpa using hc
  · have : (vs.length + 1) * bytes ≤ 1000000 * 100000 := Nat.mul_le_mul (by omega) hby
    omega
  · intro g cap w' hw hg hat hlt
    refine h g cap w' ?_ ⟨hg.os, hg.tape, hg.output, hg.size, fun k hk => hg.block k (by omega) ?_⟩
    · rw [List.flatMap_append, List.length_append]
      simpa using hw
    · intro e
      have := (hF.lt k e.symm).1
      omega

theorem append_u {α : Type} {cs : α → List Value} {sz : Nat} (T E bytes : Nat) {z : Value} (hT : Try.prog.underlying T = some (.slice E))
    (hinfo : (Try.prog.info? E).map (fun i => (i.zero, i.size, i.bytes)) = some (some z, sz, bytes)) (hz : z.cells.size = sz) (h0 : 0 < sz) (hby : bytes ≤ 100000)
    {ops : Array Oper} {rest : List Oper} {o : Oper} {a : Act} {Q : Exit → Act → World → Prop} {w : World} (hgd : o.guard = none) (s x : Operand)
    (ho : o.op = .call { callee := .builtin .append, args := #[s, x], argTypes := #[T, T] }) (B : Nat) (v : Value) (vs : List α) (hs : a.eval s = v) (hF : w.ownsRow B E sz v vs.length (vs.flatMap cs))
    (p : Nat) (u : α) (hl : (cs u).length = sz ∧ ∀ c ∈ cs u, c.oneCell' = true) (hx : a.eval x = .slice (some ⟨p, 0, none⟩) 1 1) (hp : w.heap[p]? = some (.cells (cs u).toArray E)) (hn : vs.length < 1000000) (hB : B ≤ w.heap.size)
    (h : ∀ g cap w', w'.ownsRow B E sz (.slice (some ⟨g, 0, none⟩) (vs.length + 1) cap) (vs ++ [u]).length ((vs ++ [u]).flatMap cs) → Below B w w' → wpList Try.prog ops Q rest (a.put o.dst (.slice (some ⟨g, 0, none⟩) (vs.length + 1) cap)) w') : wpList Try.prog ops Q (o :: rest) a w := by
  obtain ⟨i0, hi, hz0, hz1, hz2⟩ := info_parts hinfo
  refine wpList_append_lies w hgd s x T ho B E i0 _ sz bytes hT hi hz0 hz1 hz2 hz h0 v vs.length _ hs hF ⟨p, 0, none⟩ 1 1 (cs u) hx (by rw [hl.1, Nat.one_mul]) ?_ hl.2 (by decide) (by unfold maxLen; omega) ?_ hB w.heap.size rfl ?_
  · intro j c hc
    rw [addr_add, cell_of_row w p _ _ _ _ hp]
    simpa using hc
  · have : (vs.length + 1) * bytes ≤ 1000000 * 100000 := Nat.mul_le_mul (by omega) hby
    omega
  · intro g cap w' hw hg hat hlt
    refine h g cap w' ?_ ⟨hg.os, hg.tape, hg.output, hg.size, fun k hk => hg.block k (by omega) ?_⟩
    · rw [List.flatMap_append, List.length_append]
      simpa using hw
    · intro e
      have := (hF.lt k e.symm).1
      omega

/-- The slice v holds the ints, below the block B. -/
def IRd (w : World) (v : Value) (ls : List Int) : Prop :=
  ∃ A cap, v = .slice A ls.length cap ∧ ls.length ≤ 9223372036854775807 ∧ (∀ z ∈ ls, -9223372036854775808 ≤ z ∧ z ≤ 9223372036854775807) ∧
    (ls = [] ∨ ∃ b off, A = some ⟨b, off, none⟩ ∧ ∀ k (h : k < ls.length), w.cell? ⟨b, off + k, none⟩ = some (.int .i64 ls[k]))
theorem IRd.ext {w w' : World} {v : Value} {ls : List Int} (h : IRd w v ls) (e : Ext w w') : IRd w' v ls := by
  obtain ⟨A, cap, h1, h2, h3, h4⟩ := h
  exact ⟨A, cap, h1, h2, h3, h4.imp id fun ⟨b, off, ha, hc⟩ => ⟨b, off, ha, fun k hk => (e.cells.1 _ _ (World.block_lt_of_cell? w _ (hc k hk))).trans (hc k hk)⟩⟩

theorem up_row {ρ : Operand → Value} {d : Option Tmp} {x : Operand} {ty : TypeId} {ps : String} {af : Array Edge} {gd : Option (Nat × Bool)} {w : World} {g : Nat} {T t : TypeId} {cs : Array Value} {fs : Array Field} {fr : Nat × Nat}
    (hx : ρ x = .pointer (some ⟨g, 0, none⟩)) (hg : w.heap[g]? = some (.cells cs t fr))
    (hu : Try.prog.underlying T = some (.struct fs)) (hi : (Try.prog.info? T).map (·.size) = some cs.size) :
    Rg.up Try.prog w (.agg cs) ((execOp ρ { dst := d, op := .load T x, type := ty, pos := ps, after := af, guard := gd }).run Try.prog w) := by
  have h := run_loadVar_row (P := Try.prog) w g t T cs _ (.struct fs) hg hu rfl hi
  unfold execOp
  simp only [hx, Instr.loadAt, Instr.sureAddr, Sem.run_bind, Sem.run_pure, Result.andThen_ok, h]
  exact Rg.up_value
theorem wpList_store_row {ops : Array Oper} {rest : List Oper} {o : Oper} {a : Act} {w : World} {Q : Exit → Act → World → Prop} (hgd : o.guard = none) (T : TypeId) (x y : Operand) (ho : o.op = .store T x y)
    (g : Nat) (hx : a.eval x = .pointer (some ⟨g, 0, none⟩)) (cs : Array Value) (hy : a.eval y = .agg cs) (old : Array Value) (t : TypeId) (hg : w.heap[g]? = some (.cells old t (0, 0))) (hl : old.size = cs.size)
    (hi : (Try.prog.info? T).map (·.size) = some cs.size) (h1 : ∀ v ∈ cs.toList, v.oneCell' = true)
    (h : wpList Try.prog ops Q rest (a.put o.dst undef) (w.setRow g cs)) : wpList Try.prog ops Q (o :: rest) a w := by
  refine wpList_plain hgd fun K hK => ?_
  have hr := run_storeCells_at (P := Try.prog) g 0 t cs.toList 0 old w hg (by simp; omega) h1
  have he : (old.toList.take (0 + 0) ++ cs.toList ++ old.toList.drop (0 + 0 + cs.toList.length)).toArray = cs := by
    rw [List.drop_eq_nil_of_le (by simp; omega)]; simp
  rw [he] at hr
  unfold Oper.wp execOp
  have hs : (Go.sizeOf T).run Try.prog w = .ok cs.size w := by
    cases hq : Try.prog.info? T with
    | none => simp [hq] at hi
    | some i =>
      have hs : i.size = cs.size := by simpa [hq] using hi
      simp [sizeOf, typeInfo, hq, hs]
  have hst : (storeVar T ⟨g, 0, none⟩ (.agg cs)).run Try.prog w = .ok () (w.setRow g cs) := by
    unfold storeVar
    simp only [Value.cells, Sem.run_bind, hs, Result.andThen_ok, ne_eq, not_true_eq_false, if_false]
    exact hr
  simp only [ho, hx, hy, Instr.storeAt, Instr.sureAddr, Sem.run_bind, Sem.run_pure, Result.andThen_ok, hst]
  exact hK _ _ h

end Go.Proofs.Ytbeoihjfjkbfhaa
