/-
  A slice of formulas that the call itself has made: a row of trees. Nothing is asked.
-/
import Derived.Test.YtgkdeknfmmgbdaaEvJ
import Derived.Laws.OwnMore
import Derived.Deep.AppendLies
import Derived.Deep.Onto
namespace Go.Proofs.Ytgkdeknfmmgbdaa
set_option linter.unusedVariables false
set_option linter.unusedSimpArgs false
open Go.RowKit

def cellsV : Value → List Value
  | .agg cs => cs.toList
  | _ => []
theorem flat5 : ∀ (us : List Value) (_ : ∀ u ∈ us, (cellsV u).length = 5) (i : Nat) (h : i < us.length) (j : Nat) (_ : j < 5), (us.flatMap cellsV)[i * 5 + j]? = (cellsV us[i])[j]?
  | u :: us, h5, 0, h, j, hj => by
    rw [List.flatMap_cons, Nat.zero_mul, Nat.zero_add, List.getElem?_append_left (by rw [h5 u List.mem_cons_self]; exact hj)]
    rfl
  | u :: us, h5, i + 1, h, j, hj => by
    rw [List.flatMap_cons, List.getElem?_append_right (by rw [h5 u List.mem_cons_self]; omega), h5 u List.mem_cons_self, show (i + 1) * 5 + j - 5 = i * 5 + j by omega]
    exact flat5 us (fun u hu => h5 u (List.mem_cons_of_mem _ hu)) i (by simpa using h) j hj

/-- Blocks that are not the row's own. -/
abbrev Off (v : Value) : Nat → Prop := fun b => v.ownBlock ≠ some b
/-- The slice v, made by the call, holds the trees. -/
def FR (B : Nat) (w : World) (v : Value) (ts : List Ex) : Prop :=
  ∃ us : List Value, us.length = ts.length ∧ w.ownsRow B 29 5 v ts.length (us.flatMap cellsV) ∧ ∀ i (h : i < ts.length) (h' : i < us.length), Rd (Off v) w ts[i] us[i]

theorem Rd.cells5 {S : Nat → Prop} {w : World} {t : Ex} {u : Value} (h : Rd S w t u) : (cellsV u).length = 5 ∧ ∀ c ∈ cellsV u, c.oneCell' = true := by
  obtain ⟨op, n1, n2, nm, base, len, cap, rfl⟩ := h.form
  exact ⟨rfl, fun c hc => by simp [cellsV] at hc; rcases hc with rfl | rfl | rfl | rfl | rfl <;> rfl⟩

mutual
/-- The blocks of a tree are there. -/
theorem Rd.alive {S : Nat → Prop} {w : World} : ∀ (t : Ex) (v : Value), Rd S w t v → Rd (fun b => S b ∧ b < w.heap.size) w t v
  | .mk op n nm args, v, r => by
    unfold Rd at r ⊢
    obtain ⟨base, cap, hv, hn, hn2, hr⟩ := r
    refine ⟨base, cap, hv, hn, hn2, ?_⟩
    rcases hr with rfl | ⟨b, hb, hs, hl⟩
    · exact .inl rfl
    · match args, hl with
      | [], _ => exact .inl rfl
      | t :: ts, hl =>
        refine .inr ⟨b, hb, ⟨hs, ?_⟩, RdL.alive (t :: ts) b 0 hl⟩
        unfold RdL at hl
        obtain ⟨⟨c, hc, -⟩, -⟩ := hl
        exact World.block_lt_of_cell? w _ (hc 0 (by decide))
theorem RdL.alive {S : Nat → Prop} {w : World} : ∀ (ts : List Ex) (b k : Nat), RdL S w b k ts → RdL (fun b => S b ∧ b < w.heap.size) w b k ts
  | [], _, _, _ => by unfold RdL; trivial
  | t :: ts, b, k, r => by
    unfold RdL at r ⊢
    obtain ⟨⟨c, hc, hr⟩, hl⟩ := r
    exact ⟨⟨c, hc, Rd.alive t _ hr⟩, RdL.alive ts b (k + 1) hl⟩
end

theorem FR.nil (B : Nat) (w : World) : FR B w (.slice none 0 0) [] := ⟨[], rfl, World.ownsRow_nil w B 29 5, fun i h => absurd h (Nat.not_lt_zero _)⟩

theorem FR.five {B : Nat} {w : World} {v : Value} {ts : List Ex} {us : List Value} (hl : us.length = ts.length) (h : ∀ i (h : i < ts.length) (h' : i < us.length), Rd (Off v) w ts[i] us[i]) : ∀ u ∈ us, (cellsV u).length = 5 ∧ ∀ c ∈ cellsV u, c.oneCell' = true := by
  intro u hu
  obtain ⟨i, hi, rfl⟩ := List.mem_iff_getElem.1 hu
  exact (h i (by omega) hi).cells5

theorem FR.ext {B : Nat} {w w' : World} {v : Value} {ts : List Ex} (h : FR B w v ts) (e : Ext w w') : FR B w' v ts := by
  obtain ⟨us, hl, ho, hr⟩ := h
  refine ⟨us, hl, ?_, fun i h h' => (hr i h h').ext e⟩
  refine ⟨ho.1, ?_⟩
  rcases ho.2 with hn | ⟨g, cap, cur, hv, hb, hg, rest⟩
  · exact .inl hn
  · exact .inr ⟨g, cap, cur, hv, hb, (e.block g (Rg.lt_of_heap hg)).trans hg, rest⟩

/-- The tree at a place. -/
theorem FR.get {B : Nat} {w : World} {v : Value} {ts : List Ex} (h : FR B w v ts) (i : Nat) (hi : i < ts.length) :
    ∃ g cap op n1 n2 nm base len c, v = .slice (some ⟨g, 0, none⟩) ts.length cap ∧ g < w.heap.size ∧ cellsE w g i (at5 (.string op) (.int .i64 n1) (.int .i64 n2) (.string nm) (.slice base len c)) ∧
      Rd (Off v) w ts[i] (.agg #[.string op, .int .i64 n1, .int .i64 n2, .string nm, .slice base len c]) := by
  obtain ⟨us, hl, ho, hr⟩ := h
  have hu : i < us.length := by omega
  have h5 := FR.five (B := B) hl hr
  obtain ⟨g, cap, rfl, -, hlt⟩ := ho.form (by omega)
  have hri := hr i hi hu
  obtain ⟨op, n1, n2, nm, base, len, c, e⟩ := hri.form
  rw [e] at hri
  refine ⟨g, cap, op, n1, n2, nm, base, len, c, rfl, hlt, ?_, hri⟩
  intro j hj
  rw [ho.cellAt (i * 5 + j) (by omega), flat5 us (fun u hu => (h5 u hu).1) i hu j hj, e]
  match j, hj with
  | 0, _ => rfl
  | 1, _ => rfl
  | 2, _ => rfl
  | 3, _ => rfl
  | 4, _ => rfl

theorem addr_add (g j : Nat) : (⟨g, 0, none⟩ : Addr).add j = ⟨g, j, none⟩ := by
  unfold Addr.add
  split
  · rename_i h; rw [h]
  · simp

/-- What lies in a block of one tree. -/
theorem news5 {w : World} {p : Nat} {u : Value} (h5 : (cellsV u).length = 5) (h : ∀ j, j < 5 → w.cell? ⟨p, j, none⟩ = (cellsV u)[j]?) : ∀ j c, (cellsV u)[j]? = some c → w.cell? ((⟨p, 0, none⟩ : Addr).add j) = some c := by
  intro j c hc
  rw [addr_add, h j (by have := (List.getElem?_eq_some_iff.1 hc).1; omega), hc]

/-- One tree more. -/
theorem FR.push {B : Nat} {w w' : World} {v u : Value} {ts : List Ex} {t : Ex} {g cap : Nat} (us : List Value) (hl : us.length = ts.length) (hr : ∀ i (h : i < ts.length) (h' : i < us.length), Rd (Off v) w ts[i] us[i])
    (hu : Rd (Off v) w t u) (hw : w'.ownsRow B 29 5 (.slice (some ⟨g, 0, none⟩) (ts.length + 1) cap) (ts.length + 1) (us.flatMap cellsV ++ cellsV u)) (hg : w.grownBy w' v.ownBlock) (hat : v.ownBlock = some g ∨ g = w.heap.size) :
    FR B w' (.slice (some ⟨g, 0, none⟩) (ts.length + 1) cap) (ts ++ [t]) := by
  have keep : ∀ t u, Rd (Off v) w t u → Rd (Off (.slice (some ⟨g, 0, none⟩) (ts.length + 1) cap)) w' t u := by
    intro t u h
    refine Rd.frame (S := fun b => Off v b ∧ b < w.heap.size) ?_ ?_ _ _ (Rd.alive _ _ h)
    · rintro b o ⟨h1, -⟩ h2
      exact World.cell?_of_block (hg.block b h2 (Ne.symm h1))
    · rintro b ⟨h1, h2⟩
      show some g ≠ some b
      rcases hat with h | h
      · rw [← h]; exact h1
      · intro e; injection e with e; omega
  refine ⟨us ++ [u], by simp [hl], ?_, ?_⟩
  · rw [List.flatMap_append, List.length_append]
    simpa using hw
  · intro i h h'
    rcases Nat.lt_or_ge i ts.length with hlt | hge
    · rw [List.getElem_append_left hlt, List.getElem_append_left (by omega)]
      exact keep _ _ (hr i hlt (by omega))
    · have hi : i = ts.length := by simp at h; omega
      subst hi
      rw [List.getElem_append_right (Nat.le_refl _), List.getElem_append_right (by omega)]
      simp only [Nat.sub_self, hl, List.getElem_cons_zero]
      exact keep _ _ hu

theorem FR.form {B : Nat} {w : World} {v : Value} {ts : List Ex} (h : FR B w v ts) (h0 : 0 < ts.length) : ∃ g cap, v = .slice (some ⟨g, 0, none⟩) ts.length cap ∧ g < w.heap.size := by
  obtain ⟨us, hl, ho, hr⟩ := h
  obtain ⟨g, cap, h1, -, h2⟩ := ho.form h0
  exact ⟨g, cap, h1, h2⟩

theorem FR.own {B : Nat} {w : World} {v : Value} {ts : List Ex} (h : FR B w v ts) : ∀ k, v.ownBlock = some k → B ≤ k ∧ k < w.heap.size := by
  obtain ⟨us, hl, ho, hr⟩ := h
  exact ho.lt
/-- A tree that was there does not lie in a row that came later. -/
theorem Rd.off {S : Nat → Prop} {w : World} {t : Ex} {u v : Value} (h : Rd S w t u) (hv : ∀ k, v.ownBlock = some k → w.heap.size ≤ k) : Rd (Off v) w t u :=
  Rd.frame (S := fun b => S b ∧ b < w.heap.size) (fun _ _ _ _ => rfl) (fun b ⟨_, hb⟩ e => by have := hv b e; omega) _ _ (Rd.alive _ _ h)

theorem FR.at {B g n cap : Nat} {w : World} {ts : List Ex} (h : FR B w (.slice (some ⟨g, 0, none⟩) n cap) ts) (i : Nat) (hi : i < ts.length) :
    ∃ op n1 n2 nm base len c, g < w.heap.size ∧ cellsE w g i (at5 (.string op) (.int .i64 n1) (.int .i64 n2) (.string nm) (.slice base len c)) ∧
      Rd (Off (.slice (some ⟨g, 0, none⟩) n cap)) w ts[i] (.agg #[.string op, .int .i64 n1, .int .i64 n2, .string nm, .slice base len c]) := by
  obtain ⟨g', cap', op, n1, n2, nm, base, len, c, e, h1, h2, h3⟩ := h.get i hi
  injection e with e _ _
  injection e with e
  injection e with e _ _
  subst e
  exact ⟨op, n1, n2, nm, base, len, c, h1, h2, h3⟩
/-- The cells of one tree of a row, in a later world. -/
theorem cells_at {w w' : World} {g i : Nat} {c0 c1 c2 c3 c4 : Value} (h : cellsE w g i (at5 c0 c1 c2 c3 c4)) (e : Ext w w') (hg : g < w.heap.size) :
    w'.cell? ⟨g, i * 5, none⟩ = some c0 ∧ w'.cell? ⟨g, i * 5 + 1, none⟩ = some c1 ∧ w'.cell? ⟨g, i * 5 + 2, none⟩ = some c2 ∧ w'.cell? ⟨g, i * 5 + 3, none⟩ = some c3 ∧ w'.cell? ⟨g, i * 5 + 4, none⟩ = some c4 ∧ g < w'.heap.size :=
  ⟨(e.cells.1 _ _ hg).trans (h 0 (by decide)), (e.cells.1 _ _ hg).trans (h 1 (by decide)), (e.cells.1 _ _ hg).trans (h 2 (by decide)), (e.cells.1 _ _ hg).trans (h 3 (by decide)), (e.cells.1 _ _ hg).trans (h 4 (by decide)), Nat.lt_of_lt_of_le hg e.size⟩

theorem info29 : (Try.prog.info? 29).map (fun i => (i.zero, i.size, i.bytes)) = some (some (.agg #[.string ⟨#[]⟩, .int .i64 0, .int .i64 0, .string ⟨#[]⟩, .slice none 0 0]), 5, 72) := by kernel_rfl

/-- 'append' of one tree. -/
theorem append_tree {ops : Array Oper} {rest : List Oper} {o : Oper} {a : Act} {Q : Exit → Act → World → Prop} {w : World} (hgd : o.guard = none) (s x : Operand)
    (ho : o.op = .call { callee := .builtin .append, args := #[s, x], argTypes := #[27, 27] }) (B : Nat) (v : Value) (ts : List Ex) (hs : a.eval s = v) (hF : FR B w v ts)
    (p : Nat) (u : Value) (t : Ex) (hx : a.eval x = .slice (some ⟨p, 0, none⟩) 1 1) (hp : w.heap[p]? = some (.cells (cellsV u).toArray 29)) (hu : Rd (Off v) w t u) (hn : ts.length < 1000000) (hB : B ≤ w.heap.size)
    (h : ∀ g cap w', FR B w' (.slice (some ⟨g, 0, none⟩) (ts.length + 1) cap) (ts ++ [t]) → Below B w w' → wpList Try.prog ops Q rest (a.put o.dst (.slice (some ⟨g, 0, none⟩) (ts.length + 1) cap)) w') : wpList Try.prog ops Q (o :: rest) a w := by
  obtain ⟨us, hl, ho', hr⟩ := hF
  obtain ⟨i0, hi, hz0, hz1, hz2⟩ := info_parts info29
  have h5 := hu.cells5
  refine wpList_append_lies w hgd s x 27 ho B 29 i0 _ 5 72 Try.underlying27 hi hz0 hz1 hz2 rfl (by decide) v ts.length _ hs ho' ⟨p, 0, none⟩ 1 1 (cellsV u) hx (by rw [h5.1]) ?_ h5.2 (by decide) (by unfold maxLen; omega) (by omega) hB w.heap.size rfl ?_
  · refine news5 h5.1 fun j hj => ?_
    rw [cell_of_row w p _ _ _ _ hp]
    simp
  · intro g cap w' hw hg hat hlt
    refine h g cap w' (FR.push us hl hr hu hw hg hat) ⟨hg.os, hg.tape, hg.output, hg.size, fun k hk => hg.block k (by omega) ?_⟩
    intro e
    have := ho'.lt k e.symm
    omega
end Go.Proofs.Ytgkdeknfmmgbdaa
