/-
  A row of trees that may be written. Nothing is asked.
-/
import Derived.Test.YtgkdeknfmmgbdaaJnI
import Derived.Deep.Upon
import Derived.ArgAppend
import Derived.Laws.CopyOwn
namespace Go.Proofs.Ytgkdeknfmmgbdaa
set_option linter.unusedVariables false
set_option linter.unusedSimpArgs false
open Go.RowKit

abbrev C5 := Value × Value × Value × Value × Value
def c5 (x : C5) : List Value := [x.1, x.2.1, x.2.2.1, x.2.2.2.1, x.2.2.2.2]
def v5 (x : C5) : Value := .agg #[x.1, x.2.1, x.2.2.1, x.2.2.2.1, x.2.2.2.2]
theorem c5_len (x : C5) : (c5 x).length = 5 := rfl
theorem flatC : ∀ (us : List C5) (i : Nat) (h : i < us.length) (j : Nat) (_ : j < 5), (us.flatMap c5)[i * 5 + j]? = (c5 us[i])[j]?
  | u :: us, 0, h, j, hj => by
    rw [List.flatMap_cons, Nat.zero_mul, Nat.zero_add, List.getElem?_append_left (by rw [c5_len]; exact hj)]
    rfl
  | u :: us, i + 1, h, j, hj => by
    rw [List.flatMap_cons, List.getElem?_append_right (by rw [c5_len]; omega), c5_len, show (i + 1) * 5 + j - 5 = i * 5 + j by omega]
    exact flatC us i (by simpa using h) j hj
theorem flatC_len (us : List C5) : (us.flatMap c5).length = us.length * 5 := by
  induction us with
  | nil => rfl
  | cons u us ih => rw [List.flatMap_cons, List.length_append, ih, List.length_cons, c5_len]; omega
theorem flat_set {α : Type} {cs : α → List Value} {sz : Nat} : ∀ (us : List α) (_ : ∀ x, (cs x).length = sz) (i : Nat) (_ : i < us.length) (x : α), (us.set i x).flatMap cs = (us.flatMap cs).take (i * sz) ++ cs x ++ (us.flatMap cs).drop (i * sz + sz)
  | y :: us, hl, 0, _, x => by
    rw [List.set_cons_zero, List.flatMap_cons, List.flatMap_cons, Nat.zero_mul, List.take_zero, Nat.zero_add, List.nil_append, ← hl y, List.drop_left]
  | y :: us, hl, i + 1, h, x => by
    rw [List.set_cons_succ, List.flatMap_cons, List.flatMap_cons, flat_set us hl i (by simpa using h) x]
    have e1 : (i + 1) * sz = (cs y).length + i * sz := by rw [hl y, Nat.succ_mul]; omega
    rw [e1, List.take_length_add_append, Nat.add_assoc, List.drop_length_add_append]
    simp only [List.append_assoc]
theorem Rd.five {S : Nat → Prop} {w : World} {t : Ex} {u : Value} (h : Rd S w t u) : ∃ x : C5, u = v5 x ∧ ∀ c ∈ c5 x, c.oneCell' = true := by
  obtain ⟨op, n1, n2, nm, base, len, cap, rfl⟩ := h.form
  exact ⟨(_, _, _, _, _), rfl, fun c hc => by simp [c5] at hc; rcases hc with rfl | rfl | rfl | rfl | rfl <;> rfl⟩
theorem Rd.one5 {S : Nat → Prop} {w : World} {t : Ex} {x : C5} (h : Rd S w t (v5 x)) : ∀ c ∈ c5 x, c.oneCell' = true := by
  obtain ⟨y, e, hy⟩ := h.five
  have : y = x := by
    unfold v5 at e
    injection e with e
    simp at e
    obtain ⟨e1, e2, e3, e4, e5⟩ := e
    exact Prod.ext e1.symm (Prod.ext e2.symm (Prod.ext e3.symm (Prod.ext e4.symm e5.symm)))
  rw [← this]; exact hy

/-- Blocks in S that are not the row's own. -/
abbrev OffS (S : Nat → Prop) (v : Value) : Nat → Prop := fun b => S b ∧ v.ownBlock ≠ some b
def FS (S : Nat → Prop) (B : Nat) (w : World) (v : Value) (ts : List Ex) : Prop :=
  ∃ us : List C5, us.length = ts.length ∧ w.ownsRow B 29 5 v ts.length (us.flatMap c5) ∧ ∀ i (h : i < ts.length) (h' : i < us.length), Rd (OffS S v) w ts[i] (v5 us[i])
theorem FS.ext {S : Nat → Prop} {B : Nat} {w w' : World} {v : Value} {ts : List Ex} (h : FS S B w v ts) (e : Ext w w') : FS S B w' v ts := by
  obtain ⟨us, hl, ho, hr⟩ := h
  refine ⟨us, hl, ⟨ho.1, ?_⟩, fun i h h' => (hr i h h').ext e⟩
  rcases ho.2 with hn | ⟨g, cap, cur, hv, hb, hg, rest⟩
  · exact .inl hn
  · exact .inr ⟨g, cap, cur, hv, hb, (e.block g (Rg.lt_of_heap hg)).trans hg, rest⟩
theorem FS.shape {S : Nat → Prop} {B : Nat} {w : World} {v : Value} {ts : List Ex} (h : FS S B w v ts) : ∃ A cap, v = .slice A ts.length cap := by
  obtain ⟨us, hl, ho, hr⟩ := h
  rcases ho.2 with ⟨hn, h0⟩ | ⟨g, cap', cur, hv, -⟩
  · exact ⟨none, 0, by rw [hn, h0]⟩
  · exact ⟨_, cap', hv⟩
theorem FS.own {S : Nat → Prop} {B : Nat} {w : World} {v : Value} {ts : List Ex} (h : FS S B w v ts) : ∀ k, v.ownBlock = some k → B ≤ k ∧ k < w.heap.size := by
  obtain ⟨us, hl, ho, hr⟩ := h
  exact ho.lt
theorem FS.get {S : Nat → Prop} {B : Nat} {w : World} {v : Value} {ts : List Ex} (h : FS S B w v ts) (i : Nat) (hi : i < ts.length) :
    ∃ g cap x, v = .slice (some ⟨g, 0, none⟩) ts.length cap ∧ g < w.heap.size ∧ (∀ j, j < 5 → w.cell? ⟨g, i * 5 + j, none⟩ = (c5 x)[j]?) ∧ Rd (OffS S v) w ts[i] (v5 x) := by
  obtain ⟨us, hl, ho, hr⟩ := h
  have hu : i < us.length := by omega
  obtain ⟨g, cap, rfl, -, hlt⟩ := ho.form (by omega)
  refine ⟨g, cap, us[i], rfl, hlt, fun j hj => ?_, hr i hi hu⟩
  have hlen : i * 5 + j < (us.flatMap c5).length := by rw [flatC_len]; omega
  rw [← flatC us i hu j hj, List.getElem?_eq_getElem hlen]
  have := ho.cellAt (i * 5 + j) (by omega)
  rw [this, List.getElem?_eq_getElem hlen]
theorem RdL.of {S : Nat → Prop} {w : World} {b : Nat} : ∀ (ts : List Ex) (k : Nat), (∀ i (h : i < ts.length), ∃ c, cellsE w b (k + i) c ∧ Rd S w ts[i] (aggE c)) → RdL S w b k ts
  | [], _, _ => by unfold RdL; trivial
  | t :: ts, k, h => by
    unfold RdL
    refine ⟨h 0 (by simp), RdL.of ts (k + 1) fun i hi => ?_⟩
    have := h (i + 1) (by simpa using hi)
    rw [show k + 1 + i = k + (i + 1) by omega]
    exact this
theorem FS.rd {S : Nat → Prop} {B : Nat} {w : World} {v : Value} {ts : List Ex} (h : FS S B w v ts) (hS : ∀ k, v.ownBlock = some k → S k) (op : ByteArray) (n : Int × Int) (nm : ByteArray) (hn : I2 n) (hl : ts.length ≤ 1000000) :
    Rd S w (.mk op n nm ts) (.agg #[.string op, .int .i64 n.1, .int .i64 n.2, .string nm, v]) := by
  obtain ⟨A, cap, e⟩ := h.shape
  unfold Rd
  refine ⟨A, cap, by rw [e], hn, hl, ?_⟩
  by_cases h0 : ts = []
  · exact .inl h0
  · have hp : 0 < ts.length := List.length_pos_iff.2 h0
    obtain ⟨g, cap', x, e', hg, -, -⟩ := h.get 0 hp
    rw [e'] at e
    injection e with e1 _ _
    refine .inr ⟨g, e1.symm, hS g (by rw [e']; rfl), RdL.of ts 0 fun i hi => ?_⟩
    obtain ⟨g', cap'', x, e'', hg', hc, hr⟩ := h.get i hi
    rw [e'] at e''
    injection e'' with e'' _ _
    injection e'' with e'' 
    injection e'' with e'' _ _
    subst e''
    refine ⟨fun j => match j with | 0 => x.1 | 1 => x.2.1 | 2 => x.2.2.1 | 3 => x.2.2.2.1 | _ => x.2.2.2.2, fun j hj => ?_, ?_⟩
    · rw [Nat.zero_add, hc j hj]
      match j, hj with
      | 0, _ => rfl
      | 1, _ => rfl
      | 2, _ => rfl
      | 3, _ => rfl
      | 4, _ => rfl
    · exact Rd.frame (fun _ _ _ _ => rfl) (fun _ h => h.1) _ _ hr

/-- What 'append([]T{}, args...)' makes. -/
theorem append_args_run (S : Nat → Prop) (w : World) (ty : TypeId) (B p : Nat) (hp : w.heap[p]? = some (.cells #[] 29)) (hB : B ≤ p) (A : Option Addr) (c : Nat) (ts : List Ex) (hl : ts.length ≤ 1000000) (hr : ts = [] ∨ ∃ b, A = some ⟨b, 0, none⟩ ∧ RdL S w b 0 ts) :
    ∃ v' w', (Builtin.append_ #[27, 27] ty #[.slice (some ⟨p, 0, none⟩) 0 0, .slice A ts.length c]).run Try.prog w = .ok v' w' ∧ Ext w w' ∧ FS S B w' v' ts ∧ (ts = [] → v' = .slice (some ⟨p, 0, none⟩) 0 0) := by
  obtain ⟨i0, hi, hz0, hz1, hz2⟩ := info_parts info29
  have hpw := Rg.lt_of_heap hp
  by_cases h0 : ts = []
  · subst h0
    have hsrc : Src Try.prog i0.size 27 (.slice A 0 c) 0 [] w := by
      cases A with
      | none => exact Src.ofNil w Try.underlying27 c
      | some a => exact Src.ofSlice w Try.underlying27 a 0 c _ (by simp) (by simp) (by simp)
    have hrun := run_append_nothing (P := Try.prog) w 27 27 ty 29 i0 Try.underlying27 hi (some ⟨p, 0, none⟩) 0 0 (Nat.le_refl _) (.slice A 0 c) hsrc
    exact ⟨_, _, hrun, Ext.refl _, ⟨[], rfl, ⟨rfl, .inr ⟨p, 0, #[], rfl, hB, hp, by simp, by simp, rfl, rfl⟩⟩, fun i h _ => (by cases h)⟩, fun _ => rfl⟩
  · obtain ⟨b, rfl, hrl⟩ := hr.resolve_left h0
    have hpos : 0 < ts.length := List.length_pos_iff.2 h0
    have hxs : ∃ us : List C5, us.length = ts.length ∧ ∀ i (h : i < ts.length) (h' : i < us.length), Rd S w ts[i] (v5 us[i]) ∧ ∀ j, j < 5 → w.cell? ⟨b, i * 5 + j, none⟩ = (c5 us[i])[j]? := by
      obtain ⟨f, hf⟩ : ∃ f : Nat → C5, ∀ i (h : i < ts.length), Rd S w ts[i] (v5 (f i)) ∧ ∀ j, j < 5 → w.cell? ⟨b, i * 5 + j, none⟩ = (c5 (f i))[j]? := by
        refine Classical.axiomOfChoice (r := fun i x => ∀ (h : i < ts.length), Rd S w ts[i] (v5 x) ∧ ∀ j, j < 5 → w.cell? ⟨b, i * 5 + j, none⟩ = (c5 x)[j]?) fun i => ?_
        by_cases h : i < ts.length
        · obtain ⟨c, hc, hd⟩ := hrl.get i h
          refine ⟨(c 0, c 1, c 2, c 3, c 4), fun _ => ⟨hd, fun j hj => ?_⟩⟩
          have := hc j hj
          rw [Nat.zero_add] at this
          refine this.trans ?_
          match j, hj with
          | 0, _ => rfl
          | 1, _ => rfl
          | 2, _ => rfl
          | 3, _ => rfl
          | 4, _ => rfl
        · exact ⟨(undef, undef, undef, undef, undef), fun h' => absurd h' h⟩
      refine ⟨(List.range ts.length).map f, by simp, fun i h h' => ?_⟩
      rw [List.getElem_map, List.getElem_range]
      exact hf i h
    obtain ⟨us, hul, hus⟩ := hxs
    have hone : ∀ u ∈ us.flatMap c5, u.oneCell' = true := by
      intro u hu
      obtain ⟨x, hx, hxu⟩ := List.mem_flatMap.1 hu
      obtain ⟨i, hi, rfl⟩ := List.mem_iff_getElem.1 hx
      exact (hus i (by omega) hi).1.one5 u hxu
    obtain ⟨v', w', hrun, ho, hg⟩ := run_append_arg_grows (P := Try.prog) w 27 ty 29 i0 _ 5 72 Try.underlying27 hi hz0 hz1 hz2 rfl (by decide) ⟨p, 0, none⟩ 0 0 [] rfl (by simp) ⟨b, 0, none⟩ ts.length c (us.flatMap c5) (by rw [flatC_len, hul])
      (by
        intro j u hj
        rw [Addr.add_lit, Nat.zero_add]
        have hjl : j < us.length * 5 := by rw [← flatC_len]; exact (List.getElem?_eq_some_iff.1 hj).1
        have hij : j = j / 5 * 5 + j % 5 := by omega
        have hi : j / 5 < us.length := by omega
        rw [hij, flatC us (j / 5) hi (j % 5) (by omega)] at hj
        rw [hij, (hus (j / 5) (by omega) hi).2 (j % 5) (by omega)]
        exact hj) (by omega) (by unfold maxLen; omega) (by omega)
    have hxw : Ext w w' := ⟨hg.os, hg.tape, hg.output, hg.size, fun k hk => hg.block k hk (by simp)⟩
    refine ⟨v', w', hrun, hxw, ⟨us, hul, ⟨by rw [flatC_len, hul], ?_⟩, fun i h h' => ?_⟩, fun e => absurd e h0⟩
    · rw [Nat.zero_add, List.nil_append] at ho
      rcases ho.2 with h | ⟨g, cap, cur, h1, h2, h3⟩
      · exact .inl h
      · exact .inr ⟨g, cap, cur, h1, by omega, h3⟩
    · refine Rd.ext hxw (Rd.frame (S := fun k => S k ∧ k < w.heap.size) (fun _ _ _ _ => rfl) (fun k ⟨h1, h2⟩ => ⟨h1, fun e => ?_⟩) _ _ (Rd.alive _ _ (hus i h h').1))
      have := (ho.lt k e).1
      omega

theorem own_sl {g n c b : Nat} : (Value.slice (some ⟨g, 0, none⟩) n c).ownBlock = some b ↔ g = b := by
  show some g = some b ↔ g = b
  simp
/-- A tree is stored at a place of the row. -/
theorem wpList_store_tree {ops : Array Oper} {rest : List Oper} {o : Oper} {a : Act} {w : World} {Q : Exit → Act → World → Prop} (hgd : o.guard = none) (x y : Operand) (ho : o.op = .store 29 x y)
    (S : Nat → Prop) (g i n c B : Nat) (ts : List Ex) (t : Ex) (z : Value) (hx : a.eval x = .pointer (some ⟨g, i * 5, none⟩)) (hy : a.eval y = z) (hF : FS S B w (.slice (some ⟨g, 0, none⟩) n c) ts) (hz : Rd (fun b => S b ∧ b ≠ g) w t z) (hi : i < ts.length)
    (h : ∀ w', FS S B w' (.slice (some ⟨g, 0, none⟩) n c) (ts.set i t) → (∀ k, k ≠ g → w'.heap[k]? = w.heap[k]?) → (∀ K, K ≤ g → Below K w w') → wpList Try.prog ops Q rest (a.put o.dst undef) w') : wpList Try.prog ops Q (o :: rest) a w := by
  obtain ⟨us, hl, hr, hrd⟩ := hF
  obtain ⟨x', rfl, hx'⟩ := hz.five
  have hfl : (us.flatMap c5).length = ts.length * 5 := by rw [flatC_len, hl]
  rcases hr.2 with ⟨h1, -⟩ | ⟨g', cap, cur, hv, hB, hb, h1, h2, h3, h4⟩
  · cases h1
  injection hv with hv1 hv2 hv3
  injection hv1 with hv1
  injection hv1 with hv1 _ _
  subst hv1 hv3
  have hcl : cur.toList.length = c * 5 := by rw [Array.length_toList]; exact h3
  have hA : cur.toList = us.flatMap c5 ++ cur.toList.drop (ts.length * 5) := by rw [← h4, List.take_append_drop]
  have h6 : (c5 x').length = 5 := rfl
  refine wpList_plain hgd fun K hK => ?_
  have hst0 := run_storeCells_at (P := Try.prog) g (i * 5) 29 (c5 x') 0 cur w hb (by rw [h6, h3]; omega) hx'
  obtain ⟨new, hnew⟩ : ∃ new, new = (cur.toList.take (i * 5 + 0) ++ c5 x' ++ cur.toList.drop (i * 5 + 0 + (c5 x').length)).toArray := ⟨_, rfl⟩
  rw [← hnew] at hst0
  have hs : (Go.sizeOf 29).run Try.prog w = .ok 5 w := Try.sizeOf29 w
  have hst : (storeVar 29 ⟨g, i * 5, none⟩ (.agg (c5 x').toArray)).run Try.prog w = .ok () (w.setRow g new) := by
    unfold storeVar
    simp only [Value.cells, Sem.run_bind, hs, Result.andThen_ok, h6, ne_eq, not_true_eq_false, if_false]
    exact hst0
  unfold Oper.wp execOp
  have hy' : a.eval y = .agg (c5 x').toArray := hy
  simp only [ho, hx, hy', Instr.storeAt, Instr.sureAddr, Sem.run_bind, Sem.run_pure, Result.andThen_ok, hst]
  have hnl : new.toList = (us.set i x').flatMap c5 ++ cur.toList.drop (ts.length * 5) := by
    rw [hnew, flat_set (sz := 5) us c5_len i (by omega)]
    simp only [Nat.add_zero, h6]
    generalize cur.toList.drop (ts.length * 5) = R at *
    rw [hA]
    generalize us.flatMap c5 = F at *
    rw [List.take_append, List.drop_append, show i * 5 - F.length = 0 by omega, show i * 5 + 5 - F.length = 0 by omega, List.take_zero, List.drop_zero, List.append_nil]
    simp only [List.append_assoc]
  have hl2 : ((us.set i x').flatMap c5).length = (ts.set i t).length * 5 := by rw [flatC_len, List.length_set, List.length_set, hl]
  refine hK _ _ (h _ ⟨us.set i x', by simp [hl], ⟨hl2, .inr ⟨g, c, new, ?_, hB, setRow_heap w g cur new 29 _ hb, by rw [List.length_set]; exact h1, h2, ?_, ?_⟩⟩, fun k hk hk' => ?_⟩ (fun k hk => setRow_other w g k new hk) (fun K hK => below_setRow (Below.refl _ _) hK _))
  · rw [List.length_set, ← hv2]
  · have : new.toList.length = c * 5 := by
      rw [hnew]
      simp only [List.length_append, List.length_take, List.length_drop, h6, hcl]
      omega
    rw [← Array.length_toList]
    exact this
  · rw [hnl, ← hl2, List.take_left]
  · have key : ∀ s u, Rd (fun b => S b ∧ b ≠ g) w s u → Rd (OffS S (.slice (some ⟨g, 0, none⟩) n c)) (w.setRow g new) s u := fun s u hsu =>
      Rd.frame (S := fun b => S b ∧ b ≠ g) (S' := OffS S (.slice (some ⟨g, 0, none⟩) n c)) (w := w) (w' := w.setRow g new) (fun b o hs _ => World.cell?_of_block (setRow_other w g b new hs.2)) (fun b hs => ⟨hs.1, fun e => hs.2 ((own_sl.1 e).symm)⟩) _ _ hsu
    by_cases e : k = i
    · subst e
      rw [List.getElem_set_self, List.getElem_set_self]
      exact key _ _ hz
    · rw [List.getElem_set_ne (Ne.symm e), List.getElem_set_ne (Ne.symm e)]
      refine key _ _ (Rd.frame (S := OffS S (.slice (some ⟨g, 0, none⟩) n c)) (S' := fun b => S b ∧ b ≠ g) (w := w) (w' := w) (fun _ _ _ _ => rfl) (fun b hs => ⟨hs.1, fun e => hs.2 (own_sl.2 e.symm)⟩) _ _ (hrd k (by simpa using hk) (by simpa using hk')))

/-- One tree more. -/
theorem append_tree_s {ops : Array Oper} {rest : List Oper} {o : Oper} {a : Act} {Q : Exit → Act → World → Prop} {w : World} (hgd : o.guard = none) (s x : Operand)
    (ho : o.op = .call { callee := .builtin .append, args := #[s, x], argTypes := #[27, 27] }) (S : Nat → Prop) (B : Nat) (v : Value) (ts : List Ex) (hs : a.eval s = v) (hF : FS S B w v ts) (hSB : ∀ b, w.heap.size ≤ b → S b)
    (p : Nat) (u : C5) (t : Ex) (hx : a.eval x = .slice (some ⟨p, 0, none⟩) 1 1) (hp : w.heap[p]? = some (.cells (c5 u).toArray 29)) (hu : Rd (OffS S v) w t (v5 u)) (hn : ts.length < 1000000) (hB : B ≤ w.heap.size)
    (h : ∀ g cap w', FS S B w' (.slice (some ⟨g, 0, none⟩) (ts.length + 1) cap) (ts ++ [t]) → Below B w w' → (∀ k, k < w.heap.size → v.ownBlock ≠ some k → w'.heap[k]? = w.heap[k]?) → (v.ownBlock = some g ∨ g = w.heap.size) → wpList Try.prog ops Q rest (a.put o.dst (.slice (some ⟨g, 0, none⟩) (ts.length + 1) cap)) w') : wpList Try.prog ops Q (o :: rest) a w := by
  obtain ⟨us, hl, ho', hr⟩ := hF
  obtain ⟨i0, hi, hz0, hz1, hz2⟩ := info_parts info29
  refine wpList_append_lies w hgd s x 27 ho B 29 i0 _ 5 72 Try.underlying27 hi hz0 hz1 hz2 rfl (by decide) v ts.length _ hs ho' ⟨p, 0, none⟩ 1 1 (c5 u) hx rfl ?_ hu.one5 (by decide) (by unfold maxLen; omega) (by omega) hB w.heap.size rfl ?_
  · intro j cc hj
    rw [addr_add, cell_of_row w p _ _ _ _ hp]
    simpa using hj
  · intro g cap w' hw hg hat hlt
    have keep : ∀ t u, Rd (OffS S v) w t u → Rd (OffS S (.slice (some ⟨g, 0, none⟩) (ts.length + 1) cap)) w' t u := by
      intro t u h
      refine Rd.frame (S := fun b => OffS S v b ∧ b < w.heap.size) ?_ ?_ _ _ (Rd.alive _ _ h)
      · rintro b o ⟨h1, -⟩ h2
        exact World.cell?_of_block (hg.block b h2 (Ne.symm h1.2))
      · rintro b ⟨h1, h2⟩
        refine ⟨h1.1, ?_⟩
        show some g ≠ some b
        rcases hat with h | h
        · rw [← h]; exact h1.2
        · intro e; injection e with e; omega
    refine h g cap w' ⟨us ++ [u], by simp [hl], ?_, fun i h h' => ?_⟩ ⟨hg.os, hg.tape, hg.output, hg.size, fun k hk => hg.block k (by omega) ?_⟩ (fun k hk hv => hg.block k hk (Ne.symm hv)) hat
    · rw [List.flatMap_append, List.length_append]
      simpa using hw
    · rcases Nat.lt_or_ge i ts.length with hlt | hge
      · rw [List.getElem_append_left hlt, List.getElem_append_left (by omega)]
        exact keep _ _ (hr i hlt (by omega))
      · have hi : i = ts.length := by simp at h; omega
        subst hi
        rw [List.getElem_append_right (Nat.le_refl _), List.getElem_append_right (by omega)]
        simp only [Nat.sub_self, hl, List.getElem_cons_zero]
        exact keep _ _ hu
    · intro e
      have := ho'.lt k e.symm
      omega
theorem FS.mono {S S' : Nat → Prop} {B : Nat} {w : World} {v : Value} {ts : List Ex} (h : FS S B w v ts) (hS : ∀ b, S b → S' b) : FS S' B w v ts := by
  obtain ⟨us, hl, ho, hr⟩ := h
  exact ⟨us, hl, ho, fun i h h' => Rd.frame (fun _ _ _ _ => rfl) (fun b hb => ⟨hS b hb.1, hb.2⟩) _ _ (hr i h h')⟩
/-- A block apart has turned. -/
theorem FS.other {S : Nat → Prop} {B p : Nat} {w w' : World} {v : Value} {ts : List Ex} (h : FS S B w v ts) (hv : v.ownBlock ≠ some p) (hS : ∀ b, S b → b ≠ p) (hw : ∀ b, b ≠ p → w'.heap[b]? = w.heap[b]?) : FS S B w' v ts := by
  obtain ⟨us, hl, ho, hr⟩ := h
  refine ⟨us, hl, ⟨ho.1, ?_⟩, fun i h h' => Rd.frame (fun b o hb _ => World.cell?_of_block (hw b (hS b hb.1))) (fun _ h => h) _ _ (hr i h h')⟩
  rcases ho.2 with hn | ⟨g, cap, cur, e, hb, hg, rest⟩
  · exact .inl hn
  · refine .inr ⟨g, cap, cur, e, hb, ?_, rest⟩
    rw [hw g (fun e' => hv (by rw [e, e']; rfl))]
    exact hg
end Go.Proofs.Ytgkdeknfmmgbdaa
