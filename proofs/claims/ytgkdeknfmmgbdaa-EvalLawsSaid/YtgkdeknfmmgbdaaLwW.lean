/-
  EvalLaws walked. Conditions: ints of the machine.
-/
import Derived.Test.YtgkdeknfmmgbdaaJnI
import Derived.Test.YtgkdeknfmmgbdaaLwR
namespace Go.Proofs.Ytgkdeknfmmgbdaa
set_option linter.unusedVariables false
set_option linter.unusedSimpArgs false
open Go.RowKit

theorem up_rowA {ρ : Operand → Value} {d : Option Tmp} {x : Operand} {ty : TypeId} {ps : String} {af : Array Edge} {gd : Option (Nat × Bool)} {w : World} {g : Nat} {T t : TypeId} {cs : Array Value} {n : Nat} {s : TypeId} {fr : Nat × Nat}
    (hx : ρ x = .pointer (some ⟨g, 0, none⟩)) (hg : w.heap[g]? = some (.cells cs t fr))
    (hu : Try.prog.underlying T = some (.array n s)) (hi : (Try.prog.info? T).map (·.size) = some cs.size) :
    Rg.up Try.prog w (.agg cs) ((execOp ρ { dst := d, op := .load T x, type := ty, pos := ps, after := af, guard := gd }).run Try.prog w) := by
  have h := run_loadVar_row (P := Try.prog) w g t T cs _ (.array n s) hg hu rfl hi
  unfold execOp
  simp only [hx, Instr.loadAt, Instr.sureAddr, Sem.run_bind, Sem.run_pure, Result.andThen_ok, h]
  exact Rg.up_value
theorem wp_store_row {o : Oper} {a : Act} {w : World} {K : Act → World → Prop} {Q : Exit → Act → World → Prop} (T : TypeId) (x y : Operand) (ho : o.op = .store T x y) (hd : o.dst = none)
    (g : Nat) (hx : a.eval x = .pointer (some ⟨g, 0, none⟩)) (cs : Array Value) (hy : a.eval y = .agg cs) (old : Array Value) (t : TypeId) (hg : w.heap[g]? = some (.cells old t (0, 0))) (hl : old.size = cs.size)
    (hi : (Try.prog.info? T).map (·.size) = some cs.size) (h1 : ∀ v ∈ cs.toList, v.oneCell' = true)
    (h : ∀ w'', w''.heap[g]? = some (.cells cs t (0, 0)) → (∀ r, r ≠ g → w''.heap[r]? = w.heap[r]?) → (∀ B, B ≤ g → Below B w w'') → K a w'') : Pr.Owp Try.prog o a w K Q := by
  constructor
  have hr := run_storeCells_at (P := Try.prog) g 0 t cs.toList 0 old w hg (by simp; omega) h1
  have he : (old.toList.take (0 + 0) ++ cs.toList ++ old.toList.drop (0 + 0 + cs.toList.length)).toArray = cs := by
    rw [List.drop_eq_nil_of_le (by simp; omega)]; simp
  rw [he] at hr
  unfold Oper.wp execOp
  have hs : (Go.sizeOf T).run Try.prog w = .ok cs.size w := by
    cases hq : Try.prog.info? T with
    | none => simp [hq] at hi
    | some i =>
      have hs : i.size = cs.size := by simpa [hq] using hi
      simp [sizeOf, typeInfo, hq, hs]
  have hst : (storeVar T ⟨g, 0, none⟩ (.agg cs)).run Try.prog w = .ok () (w.setRow g cs) := by
    unfold storeVar
    simp only [Value.cells, Sem.run_bind, hs, Result.andThen_ok, ne_eq, not_true_eq_false, if_false]
    exact hr
  simp only [ho, hx, hy, Instr.storeAt, Instr.sureAddr, Sem.run_bind, Sem.run_pure, Result.andThen_ok, hst]
  unfold Oper.upon
  simp only [hd]
  refine h _ (setRow_heap _ _ _ _ _ _ hg) (fun r hr => setRow_other _ _ _ _ hr) fun B hB => below_setRow (Below.refl _ _) hB _
theorem hold2 {f a b : World → Prop} {fs : List (World → Prop)} {w : World} (h : Rr.Holds (a :: b :: f :: fs) w) : f w := h _ (List.mem_cons_of_mem _ (List.mem_cons_of_mem _ List.mem_cons_self))
def RatR (_ : World) (v : Value) : Prop := ∃ a, v = rv a ∧ RiR a
theorem RatR.ext {w w' : World} {v : Value} (h : RatR w v) (_ : Ext w w') : RatR w' v := h
theorem madeR_z (q0 q1 q2 : Int) (h0 : -9223372036854775808 ≤ q0 ∧ q0 ≤ 9223372036854775807) (h1 : -9223372036854775808 ≤ q1 ∧ q1 ≤ 9223372036854775807) (h2 : -9223372036854775808 ≤ q2 ∧ q2 ≤ 9223372036854775807) (w : World) :
    Calls Try.prog 23 #[.agg #[.int .i64 q0, .int .i64 q1, .int .i64 q2]] w fun e w' => ∃ v, e = .returned v ∧ Ext w w' ∧ RatR w' v :=
  (rMade_any q0 q1 q2 h0 h1 h2 w).mono fun _ _ ⟨a, he, hr, hx⟩ => ⟨_, he, hx, a, rfl, hr⟩
/-- Two numbers, and the formulas that they make. -/
def LwS (w : World) (p8 p9 p10 p11 : Nat) (a b : Int × Int) : Prop :=
  w.heap[p8]? = some (.cells #[.int .i64 a.1, .int .i64 a.2] 26) ∧ w.heap[p9]? = some (.cells #[.int .i64 b.1, .int .i64 b.2] 26) ∧
  w.heap[p10]? = some (.cells #[.string numB, .int .i64 a.1, .int .i64 a.2, .string nilB, .slice none 0 0] 29) ∧ w.heap[p11]? = some (.cells #[.string numB, .int .i64 b.1, .int .i64 b.2, .string nilB, .slice none 0 0] 29)
theorem LwS.ext {w w' : World} {p8 p9 p10 p11 : Nat} {a b : Int × Int} (h : LwS w p8 p9 p10 p11 a b) (e : Ext w w') : LwS w' p8 p9 p10 p11 a b := by
  obtain ⟨h1, h2, h3, h4⟩ := h
  exact ⟨(e.block _ (Rg.lt_of_heap h1)).trans h1, (e.block _ (Rg.lt_of_heap h2)).trans h2, (e.block _ (Rg.lt_of_heap h3)).trans h3, (e.block _ (Rg.lt_of_heap h4)).trans h4⟩

theorem vrd_nilW (w : World) : VRd All w [] (.slice none 0 0) := ⟨none, 0, rfl, by simp, fun x hx => (by cases hx), .inl rfl⟩
abbrev NmC (a : Int × Int) : Obj := .cells #[.string numB, .int .i64 a.1, .int .i64 a.2, .string nilB, .slice none 0 0] 29
theorem lws1 {w w2 : World} {p8 p9 : Nat} {a b : Int × Int} (k8 : w2.heap[p8]? = some (.cells #[.int .i64 a.1, .int .i64 a.2] 26)) (k9 : w2.heap[p9]? = some (.cells #[.int .i64 b.1, .int .i64 b.2] 26)) (hx : Ext w w2) :
    LwS ((w2.alloc (NmC a)).alloc (NmC b)).drew p8 p9 w2.heap.size (w2.heap.size + 1) a b ∧ Ext w ((w2.alloc (NmC a)).alloc (NmC b)).drew := by
  have e : Ext w2 ((w2.alloc (NmC a)).alloc (NmC b)).drew := Ext.drew (Ext.alloc (Ext.alloc (Ext.refl _) _) _)
  refine ⟨⟨(e.block _ (Rg.lt_of_heap k8)).trans k8, (e.block _ (Rg.lt_of_heap k9)).trans k9, ?_, ?_⟩, hx.trans e⟩
  · show ((w2.alloc (NmC a)).alloc (NmC b)).heap[w2.heap.size]? = _
    rw [Below.heap_alloc _ _ _ (by simp)]; exact block_new rfl
  · show ((w2.alloc (NmC a)).alloc (NmC b)).heap[w2.heap.size + 1]? = _
    exact block_new (by simp)
theorem lws2 {w w2 : World} {p8 p9 : Nat} {a b : Int × Int} (k8 : w2.heap[p8]? = some (.cells #[.int .i64 a.1, .int .i64 a.2] 26)) (k9 : w2.heap[p9]? = some (.cells #[.int .i64 b.1, .int .i64 b.2] 26)) (hx : Ext w w2) :
    LwS ((w2.alloc (NmC b)).alloc (NmC a)).drew p8 p9 (w2.heap.size + 1) w2.heap.size a b ∧ Ext w ((w2.alloc (NmC b)).alloc (NmC a)).drew := by
  have e : Ext w2 ((w2.alloc (NmC b)).alloc (NmC a)).drew := Ext.drew (Ext.alloc (Ext.alloc (Ext.refl _) _) _)
  refine ⟨⟨(e.block _ (Rg.lt_of_heap k8)).trans k8, (e.block _ (Rg.lt_of_heap k9)).trans k9, ?_, ?_⟩, hx.trans e⟩
  · show ((w2.alloc (NmC b)).alloc (NmC a)).heap[w2.heap.size + 1]? = _
    exact block_new (by simp)
  · show ((w2.alloc (NmC b)).alloc (NmC a)).heap[w2.heap.size]? = _
    rw [Below.heap_alloc _ _ _ (by simp)]; exact block_new rfl

theorem neq26d (a b c d : Int) (h : (a == c && b == d) = false) (w : World) : (binOp .neq 26 (.agg #[.int .i64 a, .int .i64 b]) (.agg #[.int .i64 c, .int .i64 d])).run Try.prog w = .ok (.bool true) w := by
  have h' : ¬ (a = c ∧ b = d) := by simpa using h
  by_cases h1 : a = c
  · have h2 : (b == d) = false := by rw [beq_eq_false_iff_ne]; exact fun e => h' ⟨h1, e⟩
    simp [go_sem, h1, h2]
  · have h2 : (a == c) = false := by rw [beq_eq_false_iff_ne]; exact h1
    simp [go_sem, h2]
/-- What the four operations' round finds. -/
theorem com_str (j : Nat) (h : j < 4) : (j < 2 → ((opNm (comI j)).toList == [109, 105, 110]) = false ∧ ((opNm (comI j)).toList == [109, 97, 120]) = false) ∧ (j = 2 → ((opNm (comI j)).toList == [109, 105, 110]) = true) ∧ (j = 3 → ((opNm (comI j)).toList == [109, 105, 110]) = false ∧ ((opNm (comI j)).toList == [109, 97, 120]) = true) := by
  match j, h with
  | 0, _ => refine ⟨fun _ => ⟨by kernel_rfl, by kernel_rfl⟩, fun h => by omega, fun h => by omega⟩
  | 1, _ => refine ⟨fun _ => ⟨by kernel_rfl, by kernel_rfl⟩, fun h => by omega, fun h => by omega⟩
  | 2, _ => refine ⟨fun h => by omega, fun _ => by kernel_rfl, fun h => by omega⟩
  | 3, _ => refine ⟨fun h => by omega, fun h => by omega, fun _ => ⟨by kernel_rfl, by kernel_rfl⟩⟩
theorem com_lt (j : Nat) (h : j < 4) : comI j < 6 := by
  match j, h with
  | 0, _ => decide
  | 1, _ => decide
  | 2, _ => decide
  | 3, _ => decide
abbrev comTab : Array Value := #[.string ⟨#[43]⟩, .string ⟨#[42]⟩, .string ⟨#[109, 105, 110]⟩, .string ⟨#[109, 97, 120]⟩]
theorem comTab_at (j : Nat) (h : j < 4) : comTab[j]? = some (.string (opNm (comI j))) := by
  match j, h with
  | 0, _ => rfl
  | 1, _ => rfl
  | 2, _ => rfl
  | 3, _ => rfl

set_option maxRecDepth 100000 in
set_option maxHeartbeats 4000000 in
theorem laws_walk (x0 x1 x2 y0 y1 y2 z : Int) (h0 : -9223372036854775808 ≤ x0 ∧ x0 ≤ 9223372036854775807) (h1 : -9223372036854775808 ≤ x1 ∧ x1 ≤ 9223372036854775807) (h2 : -9223372036854775808 ≤ x2 ∧ x2 ≤ 9223372036854775807)
    (h3 : -9223372036854775808 ≤ y0 ∧ y0 ≤ 9223372036854775807) (h4 : -9223372036854775808 ≤ y1 ∧ y1 ≤ 9223372036854775807) (h5 : -9223372036854775808 ≤ y2 ∧ y2 ≤ 9223372036854775807) (hz : 0 ≤ z ∧ z ≤ 255) (w : World) :
    Calls Try.prog 5 #[.agg #[.int .i64 x0, .int .i64 x1, .int .i64 x2], .agg #[.int .i64 y0, .int .i64 y1, .int .i64 y2], .int .u8 z] w fun e w' => e = .returned (.bool true) ∧ Ext w w' := by
  have HMX := Lib.hid (fun W => madeR_z x0 x1 x2 h0 h1 h2 W)
  have HMY := Lib.hid (fun W => madeR_z y0 y1 y2 h3 h4 h5 W)
  clear h0 h1 h2 h3 h4 h5
  go_enter Try.func5, Try.ntmps5
  go_upto_region 2 with (go_at_call 13; (with_reducible refine (sanity_any _).mono ?_); rintro e w1 ⟨rfl, hx1⟩)
  have e3 : ((w.alloc (.cells #[.int .i64 x0, .int .i64 x1, .int .i64 x2] 41)).alloc (.cells #[.int .i64 y0, .int .i64 y1, .int .i64 y2] 41)).heap[w.heap.size]? = some (.cells #[.int .i64 x0, .int .i64 x1, .int .i64 x2] 41) := by
    rw [Below.heap_alloc _ _ _ (by simp)]; exact block_new rfl
  have e4 : ((w.alloc (.cells #[.int .i64 x0, .int .i64 x1, .int .i64 x2] 41)).alloc (.cells #[.int .i64 y0, .int .i64 y1, .int .i64 y2] 41)).heap[w.heap.size + 1]? = some (.cells #[.int .i64 y0, .int .i64 y1, .int .i64 y2] 41) := block_new (by simp)
  have k3 := (hx1.block _ (Rg.lt_of_heap e3)).trans e3
  have k4 := (hx1.block _ (Rg.lt_of_heap e4)).trans e4
  have hxw : Ext w w1 := (by with_reducible repeat (first | exact Ext.refl _ | assumption | apply Ext.drewN | apply Ext.drew | apply Ext.alloc | (refine Ext.setCell ?_ (by simp <;> omega) _) | (refine Ext.trans ?_ (by assumption))))
  clear e3 e4 hx1
  have hnd : [27, 28, 29, 30, 8, 9].Nodup := by decide
  have hsz : ∀ A : Act, decide (150 ≤ A.tmps.size) = true → ∀ d ∈ [27, 28, 29, 30, 8, 9], d < A.tmps.size := by
    intro A h d hd
    have := of_decide_eq_true h
    simp at hd
    omega
  refine Pr.pair_regionP (A := Int × Int) (B := Int × Int) (fun A => A.eval (.tmp 3) = .pointer (some ⟨w.heap.size, 0, none⟩) ∧ A.eval (.tmp 4) = .pointer (some ⟨w.heap.size + 1, 0, none⟩) ∧ decide (150 ≤ A.tmps.size) = true)
    27 28 29 30 8 9 undef undef undef undef undef undef (.agg #[.int .i64 x0, .int .i64 x1, .int .i64 x2]) (.agg #[.int .i64 y0, .int .i64 y1, .int .i64 y2]) rv rv RiR RiR (.cells #[.int .i64 0, .int .i64 0] 26)
    (fun a => .cells #[.int .i64 a.1, .int .i64 a.2] 26) (fun a => .cells #[.int .i64 a.1, .int .i64 a.2] 26) (by kernel_rfl) ⟨by kernel_rfl, by kernel_rfl, by kernel_rfl⟩ (by kernel_rfl) (by kernel_rfl) ?_ ?_ ?_ ?_ ?_ ?_ ?_ ?_ ?_
  · rintro A ⟨e3, e4, es⟩ v1 v2 v3 v4 v5 w' K hx hk
    have he := (Pr.Pf_eval_ne (a := A) (k := 3) (d0 := 27) (d1 := 28) (d2 := 29) (d3 := 30) (d4 := 8) (d5 := 9) (by decide) undef v1 v2 v3 v4 v5).trans e3
    have hb := (hx.block _ (Rg.lt_of_heap k3)).trans k3
    have hp : ∀ v, (Pr.Pf A 27 28 29 30 8 9 undef v1 v2 v3 v4 v5).put (some 27) v = Pr.Pf A 27 28 29 30 8 9 v v1 v2 v3 v4 v5 := fun v => (Pr.Pf_put hnd _ _ _ _ _ _ _).1
    refine Pr.wp_of_up (v := .agg #[.int .i64 x0, .int .i64 x1, .int .i64 x2]) ?_ ?_
    · clear hp hk
      generalize Pr.Pf A 27 28 29 30 8 9 undef v1 v2 v3 v4 v5 = A1 at *
      exact up_rowA he hb Try.underlying41 (by kernel_rfl)
    · intro w'' e
      rw [hp]
      exact hk _ e
  · rintro A ⟨e3, e4, es⟩ v2 v3 v4 v5 w' K hx hk
    have he := (Pr.Pf_eval (a := A) hnd (hsz A es) (.agg #[.int .i64 x0, .int .i64 x1, .int .i64 x2]) undef v2 v3 v4 v5).1
    have hp : ∀ v, (Pr.Pf A 27 28 29 30 8 9 (.agg #[.int .i64 x0, .int .i64 x1, .int .i64 x2]) undef v2 v3 v4 v5).put (some 28) v = Pr.Pf A 27 28 29 30 8 9 (.agg #[.int .i64 x0, .int .i64 x1, .int .i64 x2]) v v2 v3 v4 v5 := fun v => (Pr.Pf_put hnd _ _ _ _ _ _ _).2.1
    refine Pr.wp_of_upR (R := fun v w => RatR w v) ?_ ?_
    · clear hp hk
      generalize Pr.Pf A 27 28 29 30 8 9 (.agg #[.int .i64 x0, .int .i64 x1, .int .i64 x2]) undef v2 v3 v4 v5 = A1 at *
      go_simp
      rw [show A1.tmps[27]?.getD undef = .agg #[.int .i64 x0, .int .i64 x1, .int .i64 x2] by have h9 := he; unfold Act.eval at h9; simpa using h9]
      apply Rr.upR_enter
      exact HMX.out _
    · rintro v w'' e ⟨a, rfl, ha⟩
      rw [hp]
      exact hk a _ ha e
  · rintro A ⟨e3, e4, es⟩ v0 v1 v3 v4 v5 w' K hx hk
    have he := (Pr.Pf_eval_ne (a := A) (k := 4) (d0 := 27) (d1 := 28) (d2 := 29) (d3 := 30) (d4 := 8) (d5 := 9) (by decide) v0 v1 undef v3 v4 v5).trans e4
    have hb := (hx.block _ (Rg.lt_of_heap k4)).trans k4
    have hp : ∀ v, (Pr.Pf A 27 28 29 30 8 9 v0 v1 undef v3 v4 v5).put (some 29) v = Pr.Pf A 27 28 29 30 8 9 v0 v1 v v3 v4 v5 := fun v => (Pr.Pf_put hnd _ _ _ _ _ _ _).2.2.1
    refine Pr.wp_of_up (v := .agg #[.int .i64 y0, .int .i64 y1, .int .i64 y2]) ?_ ?_
    · clear hp hk
      generalize Pr.Pf A 27 28 29 30 8 9 v0 v1 undef v3 v4 v5 = A1 at *
      exact up_rowA he hb Try.underlying41 (by kernel_rfl)
    · intro w'' e
      rw [hp]
      exact hk _ e
  · rintro A ⟨e3, e4, es⟩ v0 v1 v4 v5 w' K hx hk
    have he := (Pr.Pf_eval (a := A) hnd (hsz A es) v0 v1 (.agg #[.int .i64 y0, .int .i64 y1, .int .i64 y2]) undef v4 v5).2.2.1
    have hp : ∀ v, (Pr.Pf A 27 28 29 30 8 9 v0 v1 (.agg #[.int .i64 y0, .int .i64 y1, .int .i64 y2]) undef v4 v5).put (some 30) v = Pr.Pf A 27 28 29 30 8 9 v0 v1 (.agg #[.int .i64 y0, .int .i64 y1, .int .i64 y2]) v v4 v5 := fun v => (Pr.Pf_put hnd _ _ _ _ _ _ _).2.2.2.1
    refine Pr.wp_of_upR (R := fun v w => RatR w v) ?_ ?_
    · clear hp hk
      generalize Pr.Pf A 27 28 29 30 8 9 v0 v1 (.agg #[.int .i64 y0, .int .i64 y1, .int .i64 y2]) undef v4 v5 = A1 at *
      go_simp
      rw [show A1.tmps[29]?.getD undef = .agg #[.int .i64 y0, .int .i64 y1, .int .i64 y2] by have h9 := he; unfold Act.eval at h9; simpa using h9]
      apply Rr.upR_enter
      exact HMY.out _
    · rintro v w'' e ⟨a, rfl, ha⟩
      rw [hp]
      exact hk a _ ha e
  · rintro A ⟨e3, e4, es⟩ v0 v1 v2 v3 v5 w' K hk
    have hp : ∀ v, (Pr.Pf A 27 28 29 30 8 9 v0 v1 v2 v3 undef v5).put (some 8) v = Pr.Pf A 27 28 29 30 8 9 v0 v1 v2 v3 v v5 := fun v => (Pr.Pf_put hnd _ _ _ _ _ _ _).2.2.2.2.1
    rw [← hp] at hk
    generalize Pr.Pf A 27 28 29 30 8 9 v0 v1 v2 v3 undef v5 = A1 at *
    refine Pr.wp_of_ok (v := Rg.ptr w'.heap.size) (w' := w'.alloc (.cells #[.int .i64 0, .int .i64 0] 26)) ?_ hk
    clear hk hp
    go_simp
  · rintro A ⟨e3, e4, es⟩ v0 v1 v2 v3 v4 w' K hk
    have hp : ∀ v, (Pr.Pf A 27 28 29 30 8 9 v0 v1 v2 v3 v4 undef).put (some 9) v = Pr.Pf A 27 28 29 30 8 9 v0 v1 v2 v3 v4 v := fun v => (Pr.Pf_put hnd _ _ _ _ _ _ _).2.2.2.2.2
    rw [← hp] at hk
    generalize Pr.Pf A 27 28 29 30 8 9 v0 v1 v2 v3 v4 undef = A1 at *
    refine Pr.wp_of_ok (v := Rg.ptr w'.heap.size) (w' := w'.alloc (.cells #[.int .i64 0, .int .i64 0] 26)) ?_ hk
    clear hk hp
    go_simp
  · rintro A ⟨e3, e4, es⟩ x p v0 v2 v3 v5 w' K ha hh hk
    have he := (Pr.Pf_eval (a := A) hnd (hsz A es) v0 (rv x) v2 v3 (Rg.ptr p) v5).2.2.2.2.1
    have hv := (Pr.Pf_eval (a := A) hnd (hsz A es) v0 (rv x) v2 v3 (Rg.ptr p) v5).2.1
    generalize Pr.Pf A 27 28 29 30 8 9 v0 (rv x) v2 v3 (Rg.ptr p) v5 = A1 at *
    refine wp_store_row 26 (.tmp 8) (.tmp 28) rfl rfl p he #[.int .i64 x.1, .int .i64 x.2] hv _ 26 hh rfl (by kernel_rfl) (by intro v hv; simp at hv; rcases hv with rfl | rfl <;> rfl) hk
  · rintro A ⟨e3, e4, es⟩ x p v0 v1 v2 v4 w' K ha hh hk
    have he := (Pr.Pf_eval (a := A) hnd (hsz A es) v0 v1 v2 (rv x) v4 (Rg.ptr p)).2.2.2.2.2
    have hv := (Pr.Pf_eval (a := A) hnd (hsz A es) v0 v1 v2 (rv x) v4 (Rg.ptr p)).2.2.2.1
    generalize Pr.Pf A 27 28 29 30 8 9 v0 v1 v2 (rv x) v4 (Rg.ptr p) = A1 at *
    refine wp_store_row 26 (.tmp 9) (.tmp 30) rfl rfl p he #[.int .i64 x.1, .int .i64 x.2] hv _ 26 hh rfl (by kernel_rfl) (by intro v hv; simp at hv; rcases hv with rfl | rfl <;> rfl) hk
  clear hnd hsz
  intro a b p8 p9 w2 ha hb hx2 hp8 hp9 hne k8 k9
  have hxw2 : Ext w w2 := (by with_reducible repeat (first | exact Ext.refl _ | assumption | apply Ext.drewN | apply Ext.drew | apply Ext.alloc | (refine Ext.setCell ?_ (by simp <;> omega) _) | (refine Ext.trans ?_ (by assumption))))
  clear k3 k4 hxw hx2 hp8 hp9 HMX HMY hne
  unfold Pr.Pf
  simp only [List.setIfInBounds_toArray, List.set_cons_zero, List.set_cons_succ]
  go_upto_region 3 with (fail)
  have HA := Lib.hid ha; have HB := Lib.hid hb
  have K8 := Lib.hid k8; have K9 := Lib.hid k9; have HXW2 := Lib.hid hxw2
  clear ha hb hxw2
  obtain ⟨a1, a2⟩ := a
  obtain ⟨b1, b2⟩ := b
  simp only [rv] at k8 k9
  have l8 := Rg.lt_of_heap k8
  have l9 := Rg.lt_of_heap k9
  obtain ⟨c8, -, -⟩ := Rg.cells_of k8
  obtain ⟨c9, -, -⟩ := Rg.cells_of k9
  have c80 : w2.cell? ⟨p8, 0, none⟩ = some (.int .i64 a1) := c8 0
  have c81 : w2.cell? ⟨p8, 1, none⟩ = some (.int .i64 a2) := c8 1
  have c90 : w2.cell? ⟨p9, 0, none⟩ = some (.int .i64 b1) := c9 0
  have c91 : w2.cell? ⟨p9, 1, none⟩ = some (.int .i64 b2) := c9 1
  clear k8 k9 c8 c9
  go_cut [10, 11] (fun s10 s11 wx => ∃ p10 p11, s10 = Rg.ptr p10 ∧ s11 = Rg.ptr p11 ∧ LwS wx p8 p9 p10 p11 (a1, a2) (b1, b2) ∧ Ext w wx)
  case first =>
    go_region
    all_goals (go_wp2_with (fail); go_meet)
    all_goals first | exact ⟨_, _, rfl, rfl, lws1 (a := (a1, a2)) (b := (b1, b2)) K8.out K9.out HXW2.out⟩ | exact ⟨_, _, rfl, rfl, lws2 (a := (a1, a2)) (b := (b1, b2)) K8.out K9.out HXW2.out⟩
  case rest =>
    obtain ⟨p10, p11, rfl, rfl, hS, hx3⟩ := hcut
    clear c80 c81 c90 c91 l8 l9 K8 K9 HXW2
    have HS3 := Lib.hid hS
    have HX3 := Lib.hid hx3
    clear hS hx3
    have I2a := Lib.hid HA.out.I2
    have I2b := Lib.hid HB.out.I2
    generalize w.heap.size + 1 = pq at *
    generalize hpv : w.heap.size = pv at *
    clear hpv
    go_upto_region 4 with (fail)
    have hps : (wc.alloc (.cells comTab 9)).heap[wc.heap.size]? = some (.cells comTab 9) := block_new rfl
    have HX4 := Lib.hid (Ext.alloc (Ext.refl wc) (.cells comTab 9))
    have HTB : Hid (∀ W, Ext (wc.alloc (.cells comTab 9)) W → ∀ j, j < 4 → W.cell? ⟨wc.heap.size, j, none⟩ = some (.string (opNm (comI j))) ∧ wc.heap.size < W.heap.size) := Lib.hid fun W hW j hj => by
      have h := (hW.block _ (Rg.lt_of_heap hps)).trans hps
      exact ⟨by rw [(Rg.cells_of h).1]; exact comTab_at j hj, Rg.lt_of_heap h⟩
    clear hps
    go_wp2_with (fail)
    try change Code.wp _ _ _ _ (wc.alloc (.cells comTab 9))
    generalize wc.alloc (.cells comTab 9) = W4 at *
    generalize wc.heap.size = ps at *
    have HX34 := Lib.hid (HX3.out.trans HX4.out)
    have HS4 := Lib.hid (HS3.out.ext HX4.out)
    clear HX3 HX4 HS3
    go_loopw [37] (fun k wr => ∃ j : Nat, k = .int .i64 j ∧ j ≤ 4 ∧ Ext W4 wr) (fun k _ => 4 - (intOf k).toNat)
    case atStart => exact ⟨0, rfl, by omega, Ext.refl _⟩
    case round =>
      obtain ⟨j, rfl, hj, hx⟩ := hrel
      have HXr := Lib.hid hx
      clear hx
      rcases Nat.lt_or_ge j 4 with hlt | hge
      · obtain ⟨t0, tl⟩ := HTB.out wr HXr.out j hlt
        obtain ⟨m0, m2, m3⟩ := com_str j hlt
        have HE1 := Lib.hid (eval2 [] (comI j) (com_lt j hlt) HA.out HB.out)
        have HE2 := Lib.hid ((eval2 [] (comI j) (com_lt j hlt) HB.out HA.out).trans (apply_comm j hlt HB.out HA.out))
        have HPK := Lib.hid (fun (h2 : 2 ≤ j) => apply_pick j h2 hlt (a1, a2) (b1, b2))
        obtain ⟨⟨⟨r1, r2⟩, rf⟩, hr⟩ : ∃ r, r = applyI (comI j) (a1, a2) (b1, b2) := ⟨_, rfl⟩
        rw [← hr] at HE1 HE2 HPK
        clear hr
        have hcase : Hid ((j < 2 ∧ ((opNm (comI j)).toList == [109, 105, 110]) = false ∧ ((opNm (comI j)).toList == [109, 97, 120]) = false) ∨ (((opNm (comI j)).toList == [109, 105, 110]) = true ∧ ((r1, r2) = (a1, a2) ∨ (r1, r2) = (b1, b2))) ∨ (((opNm (comI j)).toList == [109, 105, 110]) = false ∧ ((opNm (comI j)).toList == [109, 97, 120]) = true ∧ ((r1, r2) = (a1, a2) ∨ (r1, r2) = (b1, b2)))) := Lib.hid (by
          rcases (show j < 2 ∨ j = 2 ∨ j = 3 by omega) with h | h | h
          · exact .inl ⟨h, m0 h⟩
          · exact .inr (.inl ⟨m2 h, HPK.out (by omega)⟩)
          · exact .inr (.inr ⟨(m3 h).1, (m3 h).2, HPK.out (by omega)⟩))
        clear m0 m2 m3 HPK
        generalize opNm (comI j) = s at *
        have hlt' : (j : Int) < 4 := by omega
        have hj0 : (0 : Int) ≤ (j : Int) := by omega
        have kw : IntKind.i64.wrap ((j : Int) + 1) = (j : Int) + 1 := by rw [IntKind.wrap_i64]; omega
        obtain ⟨-, -, e10, e11⟩ := HS4.out.ext HXr.out
        obtain ⟨f10, -, l10⟩ := Rg.cells_of e10
        obtain ⟨f11, -, l11⟩ := Rg.cells_of e11
        have q0 : wr.cell? ⟨p10, 0, none⟩ = some (.string numB) := f10 0
        have q1 : wr.cell? ⟨p10, 1, none⟩ = some (.int .i64 a1) := f10 1
        have q2 : wr.cell? ⟨p10, 2, none⟩ = some (.int .i64 a2) := f10 2
        have q3 : wr.cell? ⟨p10, 3, none⟩ = some (.string nilB) := f10 3
        have q4 : wr.cell? ⟨p10, 4, none⟩ = some (.slice none 0 0) := f10 4
        have o0 : wr.cell? ⟨p11, 0, none⟩ = some (.string numB) := f11 0
        have o1 : wr.cell? ⟨p11, 1, none⟩ = some (.int .i64 b1) := f11 1
        have o2 : wr.cell? ⟨p11, 2, none⟩ = some (.int .i64 b2) := f11 2
        have o3 : wr.cell? ⟨p11, 3, none⟩ = some (.string nilB) := f11 3
        have o4 : wr.cell? ⟨p11, 4, none⟩ = some (.slice none 0 0) := f11 4
        clear f10 f11 e10 e11
        go_upto_region 8 with (first
          | (go_at_call 24; (with_reducible refine (op_any All s (numE (a1, a2)) (numE (b1, b2)) _ _ _ (Rd.leaf I2a.out) (Rd.leaf I2b.out) (fun _ _ => trivial)).mono ?_); rintro e wo ⟨vo, rfl, hxo, hro⟩; have HRO := Lib.hid hro; clear hro)
          | (go_at_call 17; (with_reducible refine (eval_ex [] (opE' s (numE (a1, a2)) (numE (b1, b2))) _ _ _ _ HRO.out (vrd_nilW _) HE1.out).mono ?_); rintro e wp ⟨rfl, hxp⟩))
        have h14 : (wp.alloc (.cells #[.int .i64 r1, .int .i64 r2] 26)).heap[wp.heap.size]? = some (.cells #[.int .i64 r1, .int .i64 r2] 26) := block_new rfl
        have hx6 : Ext wr (wp.alloc (.cells #[.int .i64 r1, .int .i64 r2] 26)) := (by with_reducible repeat (first | exact Ext.refl _ | assumption | apply Ext.drewN | apply Ext.drew | apply Ext.alloc | (refine Ext.setCell ?_ (by simp <;> omega) _) | (refine Ext.trans ?_ (by assumption))))
        have H14 := Lib.hid h14
        have HX6 := Lib.hid (HXr.out.trans hx6)
        clear h14 hx6 hxp hxo HRO q0 q1 q2 q3 q4 o0 o1 o2 o3 o4 l10 l11 t0 tl
        generalize wp.alloc (.cells #[.int .i64 r1, .int .i64 r2] 26) = W6 at *
        generalize wp.heap.size = p14 at *
        obtain ⟨-, -, e10, e11⟩ := HS4.out.ext HX6.out
        obtain ⟨f10, -, l10⟩ := Rg.cells_of e10
        obtain ⟨f11, -, l11⟩ := Rg.cells_of e11
        have q0 : W6.cell? ⟨p10, 0, none⟩ = some (.string numB) := f10 0
        have q1 : W6.cell? ⟨p10, 1, none⟩ = some (.int .i64 a1) := f10 1
        have q2 : W6.cell? ⟨p10, 2, none⟩ = some (.int .i64 a2) := f10 2
        have q3 : W6.cell? ⟨p10, 3, none⟩ = some (.string nilB) := f10 3
        have q4 : W6.cell? ⟨p10, 4, none⟩ = some (.slice none 0 0) := f10 4
        have o0 : W6.cell? ⟨p11, 0, none⟩ = some (.string numB) := f11 0
        have o1 : W6.cell? ⟨p11, 1, none⟩ = some (.int .i64 b1) := f11 1
        have o2 : W6.cell? ⟨p11, 2, none⟩ = some (.int .i64 b2) := f11 2
        have o3 : W6.cell? ⟨p11, 3, none⟩ = some (.string nilB) := f11 3
        have o4 : W6.cell? ⟨p11, 4, none⟩ = some (.slice none 0 0) := f11 4
        clear f10 f11 e10 e11
        go_upto_region 9 with (first
          | (go_at_call 24; (with_reducible refine (op_any All s (numE (b1, b2)) (numE (a1, a2)) _ _ _ (Rd.leaf I2b.out) (Rd.leaf I2a.out) (fun _ _ => trivial)).mono ?_); rintro e wo ⟨vo, rfl, hxo, hro⟩; have HRO := Lib.hid hro; clear hro)
          | (go_at_call 17; (with_reducible refine (eval_ex [] (opE' s (numE (b1, b2)) (numE (a1, a2))) _ _ _ _ HRO.out (vrd_nilW _) HE2.out).mono ?_); rintro e wp ⟨rfl, hxp⟩))
        have h16 : (wp.alloc (.cells #[.int .i64 r1, .int .i64 r2] 26)).heap[wp.heap.size]? = some (.cells #[.int .i64 r1, .int .i64 r2] 26) := block_new rfl
        have hx7 : Ext W6 (wp.alloc (.cells #[.int .i64 r1, .int .i64 r2] 26)) := (by with_reducible repeat (first | exact Ext.refl _ | assumption | apply Ext.drewN | apply Ext.drew | apply Ext.alloc | (refine Ext.setCell ?_ (by simp <;> omega) _) | (refine Ext.trans ?_ (by assumption))))
        have HX7 := Lib.hid (HX6.out.trans hx7)
        have h14 := (hx7.block _ (Rg.lt_of_heap H14.out)).trans H14.out
        clear hx7 hxp hxo HRO q0 q1 q2 q3 q4 o0 o1 o2 o3 o4 l10 l11
        generalize wp.alloc (.cells #[.int .i64 r1, .int .i64 r2] 26) = W7 at *
        generalize wp.heap.size = p16 at *
        obtain ⟨e8, e9, -, -⟩ := HS4.out.ext HX7.out
        obtain ⟨c14, -, l14⟩ := Rg.cells_of h14
        obtain ⟨c16, -, l16⟩ := Rg.cells_of h16
        obtain ⟨c8, -, l8⟩ := Rg.cells_of e8
        obtain ⟨c9, -, l9⟩ := Rg.cells_of e9
        have v0 : W7.cell? ⟨p14, 0, none⟩ = some (.int .i64 r1) := c14 0
        have v1 : W7.cell? ⟨p14, 1, none⟩ = some (.int .i64 r2) := c14 1
        have v2 : W7.cell? ⟨p16, 0, none⟩ = some (.int .i64 r1) := c16 0
        have v3 : W7.cell? ⟨p16, 1, none⟩ = some (.int .i64 r2) := c16 1
        have v4 : W7.cell? ⟨p8, 0, none⟩ = some (.int .i64 a1) := c8 0
        have v5 : W7.cell? ⟨p8, 1, none⟩ = some (.int .i64 a2) := c8 1
        have v6 : W7.cell? ⟨p9, 0, none⟩ = some (.int .i64 b1) := c9 0
        have v7 : W7.cell? ⟨p9, 1, none⟩ = some (.int .i64 b2) := c9 1
        clear h14 h16 c14 c16 c8 c9 e8 e9
        have HN := fun w => neq26 r1 r2 w
        rcases hcase.out with ⟨-, n1, n2⟩ | ⟨n1, hor⟩ | ⟨n1, n2, hor⟩
        · clear hcase
          go_wp2
          go_roundw
          case rel => exact ⟨j + 1, by go_num, by omega, by first | exact HX7.out | exact Ext.drew HX7.out | exact Ext.drewN HX7.out⟩
          case measure => simp [intOf]; omega
        · clear hcase
          cases ha1 : (r1 == a1 && r2 == a2)
          · have HNa := fun w => neq26d r1 r2 a1 a2 ha1 w
            have hb1 : r1 = b1 ∧ r2 = b2 := by
              rcases hor with h | h
              · injection h with h1 h2; rw [h1, h2] at ha1; simp at ha1
              · injection h with h1 h2; exact ⟨h1, h2⟩
            obtain ⟨rfl, rfl⟩ := hb1
            clear hor ha1
            go_wp2
            go_roundw
            case rel => exact ⟨j + 1, by go_num, by omega, by first | exact HX7.out | exact Ext.drew HX7.out | exact Ext.drewN HX7.out⟩
            case measure => simp [intOf]; omega
          · simp only [Bool.and_eq_true, beq_iff_eq] at ha1
            obtain ⟨rfl, rfl⟩ := ha1
            clear hor
            go_wp2
            go_roundw
            case rel => exact ⟨j + 1, by go_num, by omega, by first | exact HX7.out | exact Ext.drew HX7.out | exact Ext.drewN HX7.out⟩
            case measure => simp [intOf]; omega
        · clear hcase
          cases ha1 : (r1 == a1 && r2 == a2)
          · have HNa := fun w => neq26d r1 r2 a1 a2 ha1 w
            have hb1 : r1 = b1 ∧ r2 = b2 := by
              rcases hor with h | h
              · injection h with h1 h2; rw [h1, h2] at ha1; simp at ha1
              · injection h with h1 h2; exact ⟨h1, h2⟩
            obtain ⟨rfl, rfl⟩ := hb1
            clear hor ha1
            go_wp2
            go_roundw
            case rel => exact ⟨j + 1, by go_num, by omega, by first | exact HX7.out | exact Ext.drew HX7.out | exact Ext.drewN HX7.out⟩
            case measure => simp [intOf]; omega
          · simp only [Bool.and_eq_true, beq_iff_eq] at ha1
            obtain ⟨rfl, rfl⟩ := ha1
            clear hor
            go_wp2
            go_roundw
            case rel => exact ⟨j + 1, by go_num, by omega, by first | exact HX7.out | exact Ext.drew HX7.out | exact Ext.drewN HX7.out⟩
            case measure => simp [intOf]; omega
      · obtain rfl : j = 4 := by omega
        obtain ⟨-, -, e10, e11⟩ := HS4.out.ext HXr.out
        obtain ⟨f10, -, l10⟩ := Rg.cells_of e10
        have q0 : wr.cell? ⟨p10, 0, none⟩ = some (.string numB) := f10 0
        have q1 : wr.cell? ⟨p10, 1, none⟩ = some (.int .i64 a1) := f10 1
        have q2 : wr.cell? ⟨p10, 2, none⟩ = some (.int .i64 a2) := f10 2
        have q3 : wr.cell? ⟨p10, 3, none⟩ = some (.string nilB) := f10 3
        have q4 : wr.cell? ⟨p10, 4, none⟩ = some (.slice none 0 0) := f10 4
        clear f10 e10 e11
        have HE0 : Hid (evalI [] (opE' subB (numE (a1, a2)) (numE (a1, a2))) = ((0, 1), 0)) := Lib.hid ((eval2 [] 1 (by decide) HA.out HA.out).trans (apply_self HA.out))
        go_upto_region 13 with (first
          | (go_at_call 24; (with_reducible refine (op_any All subB (numE (a1, a2)) (numE (a1, a2)) _ _ _ (Rd.leaf I2a.out) (Rd.leaf I2a.out) (fun _ _ => trivial)).mono ?_); rintro e wo ⟨vo, rfl, hxo, hro⟩; have HRO := Lib.hid hro; clear hro)
          | (go_at_call 17; (with_reducible refine (eval_ex [] (opE' subB (numE (a1, a2)) (numE (a1, a2))) _ _ _ _ HRO.out (vrd_nilW _) HE0.out).mono ?_); rintro e wp ⟨rfl, hxp⟩))
        have h18 : (wp.alloc (.cells #[.int .i64 0, .int .i64 1] 26)).heap[wp.heap.size]? = some (.cells #[.int .i64 0, .int .i64 1] 26) := block_new rfl
        have hx5 : Ext wr (wp.alloc (.cells #[.int .i64 0, .int .i64 1] 26)) := (by with_reducible repeat (first | exact Ext.refl _ | assumption | apply Ext.drewN | apply Ext.drew | apply Ext.alloc | (refine Ext.setCell ?_ (by simp <;> omega) _) | (refine Ext.trans ?_ (by assumption))))
        have H18 := Lib.hid h18
        have HX5 := Lib.hid (HXr.out.trans hx5)
        clear h18 hx5 hxp hxo HRO q0 q1 q2 q3 q4 l10 HE0 HTB HXr hj
        generalize wp.alloc (.cells #[.int .i64 0, .int .i64 1] 26) = W5 at *
        generalize wp.heap.size = p18 at *
        rcases (show z % 4 = 0 ∨ z % 4 = 1 ∨ z % 4 = 2 ∨ z % 4 = 3 by omega) with hm | hm | hm | hm
        · skip
          have hm2 : z.tmod 4 = 0 := by rw [Int.tmod_eq_emod_of_nonneg hz.1]; exact hm
          have HE1 : Hid (evalI [] (opE' addB (numE (a1, a2)) (numE (b1, b2))) = applyI 0 (a1, a2) (b1, b2)) := Lib.hid (eval2 [] 0 (by decide) HA.out HB.out)
          have HRES := Lib.hid (apply_ref 0 (by decide) HA.out HB.out)
          have HOP : Hid (∀ W, Calls Try.prog 25 #[rv (a1, a2), rv (b1, b2)] W fun e w' => e = .returned (rbv (refI 0 (a1, a2) (b1, b2))) ∧ Ext W w') := Lib.hid (fun W => rAdd_any (a1, a2) (b1, b2) HA.out.1 HB.out.1 W)
          obtain ⟨⟨⟨u1, u2⟩, ok⟩, hu⟩ : ∃ y, y = refI 0 (a1, a2) (b1, b2) := ⟨_, rfl⟩
          obtain ⟨⟨⟨r1, r2⟩, rf⟩, hr⟩ : ∃ y, y = applyI 0 (a1, a2) (b1, b2) := ⟨_, rfl⟩
          rw [← hu] at HOP HRES
          rw [← hr] at HE1 HRES
          clear hu hr
          obtain ⟨-, -, e10, e11⟩ := HS4.out.ext HX5.out
          obtain ⟨f10, -, l10⟩ := Rg.cells_of e10
          obtain ⟨f11, -, l11⟩ := Rg.cells_of e11
          have q0 : W5.cell? ⟨p10, 0, none⟩ = some (.string numB) := f10 0
          have q1 : W5.cell? ⟨p10, 1, none⟩ = some (.int .i64 a1) := f10 1
          have q2 : W5.cell? ⟨p10, 2, none⟩ = some (.int .i64 a2) := f10 2
          have q3 : W5.cell? ⟨p10, 3, none⟩ = some (.string nilB) := f10 3
          have q4 : W5.cell? ⟨p10, 4, none⟩ = some (.slice none 0 0) := f10 4
          have o0 : W5.cell? ⟨p11, 0, none⟩ = some (.string numB) := f11 0
          have o1 : W5.cell? ⟨p11, 1, none⟩ = some (.int .i64 b1) := f11 1
          have o2 : W5.cell? ⟨p11, 2, none⟩ = some (.int .i64 b2) := f11 2
          have o3 : W5.cell? ⟨p11, 3, none⟩ = some (.string nilB) := f11 3
          have o4 : W5.cell? ⟨p11, 4, none⟩ = some (.slice none 0 0) := f11 4
          clear f10 f11 e10 e11
          go_upto_region 14 with (fail)
          have hx9 := Ext.alloc (Ext.refl W5) (.cells #[.string ⟨#[43]⟩, .string ⟨#[45]⟩, .string ⟨#[42]⟩, .string ⟨#[47]⟩] 9)
          go_upto_region 15 with (first
            | (go_at_call 24; (with_reducible refine (op_any All addB (numE (a1, a2)) (numE (b1, b2)) _ _ _ (Rd.leaf I2a.out) (Rd.leaf I2b.out) (fun _ _ => trivial)).mono ?_); rintro e wo ⟨vo, rfl, hxo, hro⟩; have HRO := Lib.hid hro; clear hro)
            | (go_at_call 17; (with_reducible refine (eval_ex [] (opE' addB (numE (a1, a2)) (numE (b1, b2))) _ _ _ _ HRO.out (vrd_nilW _) HE1.out).mono ?_); rintro e wp ⟨rfl, hxp⟩))
          have h21 : (wp.alloc (.cells #[.int .i64 r1, .int .i64 r2] 26)).heap[wp.heap.size]? = some (.cells #[.int .i64 r1, .int .i64 r2] 26) := block_new rfl
          have hx6 : Ext W5 (wp.alloc (.cells #[.int .i64 r1, .int .i64 r2] 26)) := (by with_reducible repeat (first | exact Ext.refl _ | assumption | apply Ext.drewN | apply Ext.drew | apply Ext.alloc | (refine Ext.setCell ?_ (by simp <;> omega) _) | (refine Ext.trans ?_ (by assumption))))
          have H21 := Lib.hid h21
          have HX6 := Lib.hid (HX5.out.trans hx6)
          have h18 := (hx6.block _ (Rg.lt_of_heap H18.out)).trans H18.out
          have H18b := Lib.hid h18
          clear h21 hx6 h18 hxp hxo HRO q0 q1 q2 q3 q4 o0 o1 o2 o3 o4 l10 l11 HE1 hx9
          generalize wp.alloc (.cells #[.int .i64 r1, .int .i64 r2] 26) = W6 at *
          generalize wp.heap.size = p21 at *
          obtain ⟨e8, e9, -, -⟩ := HS4.out.ext HX6.out
          refine Rr.wp_regionE [10] [(1, .y), (2, .y), (5, .y), (6, .y), (0, .m), (3, .y), (4, .y), (7, .y), (8, .y), (9, .y), (10, .y), (11, .m)] (fun i => if i = 0 then (.cells #[.func (.func 25) #[] #[], .func (.func 26) #[] #[], .func (.func 27) #[] #[], .func (.func 28) #[] #[]] 46, fun p => .slice (some ⟨p, 0, none⟩) 4 4) else (.cells #[.int .i64 0, .int .i64 0] 26, Rg.ptr)) (fun c a d v w h => by have h' : _ ∧ _ := h; exact ⟨(Rr.put_defers a d v).symm.trans h'.1, h'.2⟩) (by kernel_rfl) (by kernel_rfl) ?_
          (refine Rr.wr_y (by simp only [List.getElem?_toArray, List.getElem?_cons_succ, List.getElem?_cons_zero]; rfl) (by rfl) ?_
           apply Exists.intro
           refine ⟨fun wz hw _ => ?_, ?_⟩
           · have hcz := hw.cells.1
             go_simp
             (with_reducible exact Rg.up_value)
           simp only [Act.put, List.setIfInBounds_toArray, List.set_cons_zero, List.set_cons_succ])
          (refine Rr.wr_y (by simp only [List.getElem?_toArray, List.getElem?_cons_succ, List.getElem?_cons_zero]; rfl) (by rfl) ?_
           apply Exists.intro
           refine ⟨fun wz hw _ => ?_, ?_⟩
           · have hcz := hw.cells.1
             go_simp
             (with_reducible exact Rg.up_value)
           simp only [Act.put, List.setIfInBounds_toArray, List.set_cons_zero, List.set_cons_succ])
          (refine Rr.wr_y (by simp only [List.getElem?_toArray, List.getElem?_cons_succ, List.getElem?_cons_zero]; rfl) (by rfl) ?_
           apply Exists.intro
           refine ⟨fun wz hw _ => ?_, ?_⟩
           · have hcz := hw.cells.1
             exact up_row (by rfl) ((hw.block _ (Rg.lt_of_heap e8)).trans e8) Try.underlying26 (by kernel_rfl)
           simp only [Act.put, List.setIfInBounds_toArray, List.set_cons_zero, List.set_cons_succ])
          (refine Rr.wr_y (by simp only [List.getElem?_toArray, List.getElem?_cons_succ, List.getElem?_cons_zero]; rfl) (by rfl) ?_
           apply Exists.intro
           refine ⟨fun wz hw _ => ?_, ?_⟩
           · have hcz := hw.cells.1
             exact up_row (by rfl) ((hw.block _ (Rg.lt_of_heap e9)).trans e9) Try.underlying26 (by kernel_rfl)
           simp only [Act.put, List.setIfInBounds_toArray, List.set_cons_zero, List.set_cons_succ])
          refine Rr.wr_m (by simp only [List.getElem?_toArray, List.getElem?_cons_succ, List.getElem?_cons_zero]; rfl) (by rfl) (fun wz => by go_simp) (fun pf hpf => ?_)
          simp only [Act.put, List.setIfInBounds_toArray, List.set_cons_zero, List.set_cons_succ]
          (refine Rr.wr_y (by simp only [List.getElem?_toArray, List.getElem?_cons_succ, List.getElem?_cons_zero]; rfl) (by rfl) ?_
           apply Exists.intro
           refine ⟨fun wz hw _ => ?_, ?_⟩
           · have hcz := hw.cells.1
             go_simp
             (with_reducible exact Rg.up_value)
           simp only [Act.put, List.setIfInBounds_toArray, List.set_cons_zero, List.set_cons_succ])
          refine Rr.wr_y (by simp only [List.getElem?_toArray, List.getElem?_cons_succ, List.getElem?_cons_zero]; rfl) (by rfl) ⟨.func (.func 25) #[] #[], fun wz hw hh => ?_, ?_⟩
          · obtain ⟨-, hbk⟩ := hold0 hh
            obtain ⟨hbc, -, hbl⟩ := Rg.cells_of hbk
            have hbi : wz.cell? ⟨pf, 0, none⟩ = some (.func (.func 25) #[] #[]) := hbc 0
            clear hbk hbc hh
            go_simp
            (with_reducible exact Rg.up_value)
          simp only [Act.put, List.setIfInBounds_toArray, List.set_cons_zero, List.set_cons_succ]
          (refine Rr.wr_y (by simp only [List.getElem?_toArray, List.getElem?_cons_succ, List.getElem?_cons_zero]; rfl) (by rfl) ?_
           apply Exists.intro
           refine ⟨fun wz hw _ => ?_, ?_⟩
           · have hcz := hw.cells.1
             go_simp
             apply Rg.up_enter
             (with_reducible refine (HOP.out _).mono ?_)
             rintro e w3 ⟨rfl, hb3⟩
             exact ⟨rfl, hb3⟩
           simp only [Act.put, List.setIfInBounds_toArray, List.set_cons_zero, List.set_cons_succ])
          (refine Rr.wr_y (by simp only [List.getElem?_toArray, List.getElem?_cons_succ, List.getElem?_cons_zero]; rfl) (by rfl) ?_
           apply Exists.intro
           refine ⟨fun wz hw _ => ?_, ?_⟩
           · have hcz := hw.cells.1
             go_simp
             (with_reducible exact Rg.up_value)
           simp only [Act.put, List.setIfInBounds_toArray, List.set_cons_zero, List.set_cons_succ])
          (refine Rr.wr_y (by simp only [List.getElem?_toArray, List.getElem?_cons_succ, List.getElem?_cons_zero]; rfl) (by rfl) ?_
           apply Exists.intro
           refine ⟨fun wz hw _ => ?_, ?_⟩
           · have hcz := hw.cells.1
             go_simp
             (with_reducible exact Rg.up_value)
           simp only [Act.put, List.setIfInBounds_toArray, List.set_cons_zero, List.set_cons_succ])
          (refine Rr.wr_y (by simp only [List.getElem?_toArray, List.getElem?_cons_succ, List.getElem?_cons_zero]; rfl) (by rfl) ?_
           apply Exists.intro
           refine ⟨fun wz hw _ => ?_, ?_⟩
           · have hcz := hw.cells.1
             go_simp
             (with_reducible exact Rg.up_value)
           simp only [Act.put, List.setIfInBounds_toArray, List.set_cons_zero, List.set_cons_succ])
          refine Rr.wr_m (by simp only [List.getElem?_toArray, List.getElem?_cons_succ, List.getElem?_cons_zero]; rfl) (by rfl) (fun wz => by go_simp) (fun p23 hp23 => ?_)
          simp only [Act.put, List.setIfInBounds_toArray, List.set_cons_zero, List.set_cons_succ]
          refine Rr.wr_nil ?_
          intro wy hy hh
          simp only [List.length_cons, List.length_nil, List.drop_succ_cons, List.drop_zero, Nat.reduceAdd]
          obtain ⟨hb1, hb2⟩ := hh _ List.mem_cons_self
          clear hh
          refine wpList_store_row (hgd := rfl) 26 (.tmp 23) (.tmp 113) rfl p23 (by rfl) #[.int .i64 u1, .int .i64 u2] (by rfl) _ 26 hb2 (by rfl) (by kernel_rfl) (by intro v hv; simp at hv; rcases hv with rfl | rfl <;> rfl) ?_
          have h23 := setRow_heap wy p23 _ #[.int .i64 u1, .int .i64 u2] 26 _ hb2
          have hx7 : Ext W6 (wy.setRow p23 #[.int .i64 u1, .int .i64 u2]) := below_setRow hy hb1 _
          generalize wy.setRow p23 #[.int .i64 u1, .int .i64 u2] = W7 at *
          have h21 := (hx7.block _ (Rg.lt_of_heap H21.out)).trans H21.out
          have h18 := (hx7.block _ (Rg.lt_of_heap H18b.out)).trans H18b.out
          have HX7 := Lib.hid (HX34.out.trans (HX6.out.trans hx7))
          obtain ⟨-, e9', -, -⟩ := HS4.out.ext (HX6.out.trans hx7)
          obtain ⟨c9, -, l9⟩ := Rg.cells_of e9'
          obtain ⟨c18, -, l18⟩ := Rg.cells_of h18
          obtain ⟨c21, -, l21⟩ := Rg.cells_of h21
          obtain ⟨c23, -, l23⟩ := Rg.cells_of h23
          have v0 : W7.cell? ⟨p9, 0, none⟩ = some (.int .i64 b1) := c9 0
          have v2 : W7.cell? ⟨p18, 0, none⟩ = some (.int .i64 0) := c18 0
          have v3 : W7.cell? ⟨p18, 1, none⟩ = some (.int .i64 1) := c18 1
          have v4 : W7.cell? ⟨p21, 0, none⟩ = some (.int .i64 r1) := c21 0
          have v5 : W7.cell? ⟨p21, 1, none⟩ = some (.int .i64 r2) := c21 1
          have v6 : W7.cell? ⟨p23, 0, none⟩ = some (.int .i64 u1) := c23 0
          have v7 : W7.cell? ⟨p23, 1, none⟩ = some (.int .i64 u2) := c23 1
          have HNz := fun w => eql26 0 1 w
          have HNu := fun w => eql26 u1 u2 w
          clear hp23 hpf hb1 hb2 hy hx7 h18 h21 h23 c9 c18 c21 c23 e8 e9 e9'
          cases ok
          · obtain ⟨rfl, rfl, rfl⟩ : r1 = 0 ∧ r2 = 0 ∧ rf = 3 := by
              have h := HRES.out
              rw [if_neg (by simp), if_neg (by simp)] at h
              injection h with h1 h2
              injection h1 with h3 h4
              exact ⟨h3, h4, h2⟩
            go_upto_region 21 with (fail)
            refine Rr.wp_region ((List.range 24).map (fun i => (i, .y))) (fun _ => (.cells #[] 29, Rg.ptr)) (by kernel_rfl) (by kernel_rfl) ?_
            simp only [List.range, List.range.loop, List.map_cons, List.map_nil]
            (refine Rr.wr_y (by simp only [List.getElem?_toArray, List.getElem?_cons_succ, List.getElem?_cons_zero]; rfl) (by rfl) ?_
             apply Exists.intro
             refine ⟨fun wz hw _ => ?_, ?_⟩
             · have hcz := hw.cells.1
               go_simp
               (with_reducible exact Rg.up_value)
             simp only [Act.put, List.setIfInBounds_toArray, List.set_cons_zero, List.set_cons_succ])
            (refine Rr.wr_y (by simp only [List.getElem?_toArray, List.getElem?_cons_succ, List.getElem?_cons_zero]; rfl) (by rfl) ?_
             apply Exists.intro
             refine ⟨fun wz hw _ => ?_, ?_⟩
             · have hcz := hw.cells.1
               go_simp
               (with_reducible exact Rg.up_value)
             simp only [Act.put, List.setIfInBounds_toArray, List.set_cons_zero, List.set_cons_succ])
            (refine Rr.wr_y (by simp only [List.getElem?_toArray, List.getElem?_cons_succ, List.getElem?_cons_zero]; rfl) (by rfl) ?_
             apply Exists.intro
             refine ⟨fun wz hw _ => ?_, ?_⟩
             · have hcz := hw.cells.1
               go_simp
               (with_reducible exact Rg.up_value)
             simp only [Act.put, List.setIfInBounds_toArray, List.set_cons_zero, List.set_cons_succ])
            (refine Rr.wr_y (by simp only [List.getElem?_toArray, List.getElem?_cons_succ, List.getElem?_cons_zero]; rfl) (by rfl) ?_
             apply Exists.intro
             refine ⟨fun wz hw _ => ?_, ?_⟩
             · have hcz := hw.cells.1
               go_simp
               (with_reducible exact Rg.up_value)
             simp only [Act.put, List.setIfInBounds_toArray, List.set_cons_zero, List.set_cons_succ])
            (refine Rr.wr_y (by simp only [List.getElem?_toArray, List.getElem?_cons_succ, List.getElem?_cons_zero]; rfl) (by rfl) ?_
             apply Exists.intro
             refine ⟨fun wz hw _ => ?_, ?_⟩
             · have hcz := hw.cells.1
               go_simp
               (with_reducible exact Rg.up_value)
             simp only [Act.put, List.setIfInBounds_toArray, List.set_cons_zero, List.set_cons_succ])
            (refine Rr.wr_y (by simp only [List.getElem?_toArray, List.getElem?_cons_succ, List.getElem?_cons_zero]; rfl) (by rfl) ?_
             apply Exists.intro
             refine ⟨fun wz hw _ => ?_, ?_⟩
             · have hcz := hw.cells.1
               go_simp
               (with_reducible exact Rg.up_value)
             simp only [Act.put, List.setIfInBounds_toArray, List.set_cons_zero, List.set_cons_succ])
            (refine Rr.wr_y (by simp only [List.getElem?_toArray, List.getElem?_cons_succ, List.getElem?_cons_zero]; rfl) (by rfl) ?_
             apply Exists.intro
             refine ⟨fun wz hw _ => ?_, ?_⟩
             · have hcz := hw.cells.1
               exact up_load26 (by rfl) ((hcz _ _ l18).trans v2) ((hcz _ _ l18).trans v3)
             simp only [Act.put, List.setIfInBounds_toArray, List.set_cons_zero, List.set_cons_succ])
            (refine Rr.wr_y (by simp only [List.getElem?_toArray, List.getElem?_cons_succ, List.getElem?_cons_zero]; rfl) (by rfl) ?_
             apply Exists.intro
             refine ⟨fun wz hw _ => ?_, ?_⟩
             · have hcz := hw.cells.1
               go_simp
               apply Rg.up_enter
               (with_reducible refine (refOf_any 0 _).mono ?_)
               rintro e w3 ⟨rfl, hb3⟩
               exact ⟨rfl, hb3⟩
             simp only [Act.put, List.setIfInBounds_toArray, List.set_cons_zero, List.set_cons_succ])
            (refine Rr.wr_y (by simp only [List.getElem?_toArray, List.getElem?_cons_succ, List.getElem?_cons_zero]; rfl) (by rfl) ?_
             apply Exists.intro
             refine ⟨fun wz hw _ => ?_, ?_⟩
             · have hcz := hw.cells.1
               go_simp
               (with_reducible exact Rg.up_value)
             simp only [Act.put, List.setIfInBounds_toArray, List.set_cons_zero, List.set_cons_succ])
            (refine Rr.wr_y (by simp only [List.getElem?_toArray, List.getElem?_cons_succ, List.getElem?_cons_zero]; rfl) (by rfl) ?_
             apply Exists.intro
             refine ⟨fun wz hw _ => ?_, ?_⟩
             · have hcz := hw.cells.1
               go_simp
               (with_reducible exact Rg.up_value)
             simp only [Act.put, List.setIfInBounds_toArray, List.set_cons_zero, List.set_cons_succ])
            (refine Rr.wr_y (by simp only [List.getElem?_toArray, List.getElem?_cons_succ, List.getElem?_cons_zero]; rfl) (by rfl) ?_
             apply Exists.intro
             refine ⟨fun wz hw _ => ?_, ?_⟩
             · have hcz := hw.cells.1
               go_simp
               (with_reducible exact Rg.up_value)
             simp only [Act.put, List.setIfInBounds_toArray, List.set_cons_zero, List.set_cons_succ])
            (refine Rr.wr_y (by simp only [List.getElem?_toArray, List.getElem?_cons_succ, List.getElem?_cons_zero]; rfl) (by rfl) ?_
             apply Exists.intro
             refine ⟨fun wz hw _ => ?_, ?_⟩
             · have hcz := hw.cells.1
               go_simp
               (with_reducible exact Rg.up_value)
             simp only [Act.put, List.setIfInBounds_toArray, List.set_cons_zero, List.set_cons_succ])
            (refine Rr.wr_y (by simp only [List.getElem?_toArray, List.getElem?_cons_succ, List.getElem?_cons_zero]; rfl) (by rfl) ?_
             apply Exists.intro
             refine ⟨fun wz hw _ => ?_, ?_⟩
             · have hcz := hw.cells.1
               go_simp
               (with_reducible exact Rg.up_value)
             simp only [Act.put, List.setIfInBounds_toArray, List.set_cons_zero, List.set_cons_succ])
            (refine Rr.wr_y (by simp only [List.getElem?_toArray, List.getElem?_cons_succ, List.getElem?_cons_zero]; rfl) (by rfl) ?_
             apply Exists.intro
             refine ⟨fun wz hw _ => ?_, ?_⟩
             · have hcz := hw.cells.1
               go_simp
               (with_reducible exact Rg.up_value)
             simp only [Act.put, List.setIfInBounds_toArray, List.set_cons_zero, List.set_cons_succ])
            (refine Rr.wr_y (by simp only [List.getElem?_toArray, List.getElem?_cons_succ, List.getElem?_cons_zero]; rfl) (by rfl) ?_
             apply Exists.intro
             refine ⟨fun wz hw _ => ?_, ?_⟩
             · have hcz := hw.cells.1
               go_simp
               (with_reducible exact Rg.up_value)
             simp only [Act.put, List.setIfInBounds_toArray, List.set_cons_zero, List.set_cons_succ])
            (refine Rr.wr_y (by simp only [List.getElem?_toArray, List.getElem?_cons_succ, List.getElem?_cons_zero]; rfl) (by rfl) ?_
             apply Exists.intro
             refine ⟨fun wz hw _ => ?_, ?_⟩
             · have hcz := hw.cells.1
               go_simp
               (with_reducible exact Rg.up_value)
             simp only [Act.put, List.setIfInBounds_toArray, List.set_cons_zero, List.set_cons_succ])
            (refine Rr.wr_y (by simp only [List.getElem?_toArray, List.getElem?_cons_succ, List.getElem?_cons_zero]; rfl) (by rfl) ?_
             apply Exists.intro
             refine ⟨fun wz hw _ => ?_, ?_⟩
             · have hcz := hw.cells.1
               go_simp
               (with_reducible exact Rg.up_value)
             simp only [Act.put, List.setIfInBounds_toArray, List.set_cons_zero, List.set_cons_succ])
            (refine Rr.wr_y (by simp only [List.getElem?_toArray, List.getElem?_cons_succ, List.getElem?_cons_zero]; rfl) (by rfl) ?_
             apply Exists.intro
             refine ⟨fun wz hw _ => ?_, ?_⟩
             · have hcz := hw.cells.1
               go_simp
               (with_reducible exact Rg.up_value)
             simp only [Act.put, List.setIfInBounds_toArray, List.set_cons_zero, List.set_cons_succ])
            (refine Rr.wr_y (by simp only [List.getElem?_toArray, List.getElem?_cons_succ, List.getElem?_cons_zero]; rfl) (by rfl) ?_
             apply Exists.intro
             refine ⟨fun wz hw _ => ?_, ?_⟩
             · have hcz := hw.cells.1
               go_simp
               (with_reducible exact Rg.up_value)
             simp only [Act.put, List.setIfInBounds_toArray, List.set_cons_zero, List.set_cons_succ])
            refine Rr.wr_skip (by simp only [List.getElem?_toArray, List.getElem?_cons_succ, List.getElem?_cons_zero]; rfl) (by rfl) ?_
            simp only [Act.put, List.setIfInBounds_toArray, List.set_cons_zero, List.set_cons_succ]
            refine Rr.wr_skip (by simp only [List.getElem?_toArray, List.getElem?_cons_succ, List.getElem?_cons_zero]; rfl) (by rfl) ?_
            simp only [Act.put, List.setIfInBounds_toArray, List.set_cons_zero, List.set_cons_succ]
            refine Rr.wr_skip (by simp only [List.getElem?_toArray, List.getElem?_cons_succ, List.getElem?_cons_zero]; rfl) (by rfl) ?_
            simp only [Act.put, List.setIfInBounds_toArray, List.set_cons_zero, List.set_cons_succ]
            (refine Rr.wr_y (by simp only [List.getElem?_toArray, List.getElem?_cons_succ, List.getElem?_cons_zero]; rfl) (by rfl) ?_
             apply Exists.intro
             refine ⟨fun wz hw _ => ?_, ?_⟩
             · have hcz := hw.cells.1
               go_simp
               (with_reducible exact Rg.up_value)
             simp only [Act.put, List.setIfInBounds_toArray, List.set_cons_zero, List.set_cons_succ])
            (refine Rr.wr_y (by simp only [List.getElem?_toArray, List.getElem?_cons_succ, List.getElem?_cons_zero]; rfl) (by rfl) ?_
             apply Exists.intro
             refine ⟨fun wz hw _ => ?_, ?_⟩
             · have hcz := hw.cells.1
               go_simp
               (with_reducible exact Rg.up_value)
             simp only [Act.put, List.setIfInBounds_toArray, List.set_cons_zero, List.set_cons_succ])
            refine Rr.wr_nil ?_
            intro wy hy hh
            simp only [List.length_cons, List.length_nil, List.drop_succ_cons, List.drop_zero, Nat.reduceAdd]
            clear hh
            go_wp2_with (fail)
            go_ret
            exact ⟨rfl, HX7.out.trans hy⟩
          · obtain ⟨rfl, rfl, rfl⟩ : r1 = u1 ∧ r2 = u2 ∧ rf = 0 := by
              have h := HRES.out
              rw [if_neg (by simp), if_pos rfl] at h
              injection h with h1 h2
              injection h1 with h3 h4
              exact ⟨h3, h4, h2⟩
            go_upto_region 21 with (fail)
            refine Rr.wp_region ((List.range 24).map (fun i => (i, .y))) (fun _ => (.cells #[] 29, Rg.ptr)) (by kernel_rfl) (by kernel_rfl) ?_
            simp only [List.range, List.range.loop, List.map_cons, List.map_nil]
            (refine Rr.wr_y (by simp only [List.getElem?_toArray, List.getElem?_cons_succ, List.getElem?_cons_zero]; rfl) (by rfl) ?_
             apply Exists.intro
             refine ⟨fun wz hw _ => ?_, ?_⟩
             · have hcz := hw.cells.1
               go_simp
               (with_reducible exact Rg.up_value)
             simp only [Act.put, List.setIfInBounds_toArray, List.set_cons_zero, List.set_cons_succ])
            (refine Rr.wr_y (by simp only [List.getElem?_toArray, List.getElem?_cons_succ, List.getElem?_cons_zero]; rfl) (by rfl) ?_
             apply Exists.intro
             refine ⟨fun wz hw _ => ?_, ?_⟩
             · have hcz := hw.cells.1
               go_simp
               (with_reducible exact Rg.up_value)
             simp only [Act.put, List.setIfInBounds_toArray, List.set_cons_zero, List.set_cons_succ])
            (refine Rr.wr_y (by simp only [List.getElem?_toArray, List.getElem?_cons_succ, List.getElem?_cons_zero]; rfl) (by rfl) ?_
             apply Exists.intro
             refine ⟨fun wz hw _ => ?_, ?_⟩
             · have hcz := hw.cells.1
               go_simp
               (with_reducible exact Rg.up_value)
             simp only [Act.put, List.setIfInBounds_toArray, List.set_cons_zero, List.set_cons_succ])
            (refine Rr.wr_y (by simp only [List.getElem?_toArray, List.getElem?_cons_succ, List.getElem?_cons_zero]; rfl) (by rfl) ?_
             apply Exists.intro
             refine ⟨fun wz hw _ => ?_, ?_⟩
             · have hcz := hw.cells.1
               go_simp
               (with_reducible exact Rg.up_value)
             simp only [Act.put, List.setIfInBounds_toArray, List.set_cons_zero, List.set_cons_succ])
            (refine Rr.wr_y (by simp only [List.getElem?_toArray, List.getElem?_cons_succ, List.getElem?_cons_zero]; rfl) (by rfl) ?_
             apply Exists.intro
             refine ⟨fun wz hw _ => ?_, ?_⟩
             · have hcz := hw.cells.1
               go_simp
               (with_reducible exact Rg.up_value)
             simp only [Act.put, List.setIfInBounds_toArray, List.set_cons_zero, List.set_cons_succ])
            (refine Rr.wr_y (by simp only [List.getElem?_toArray, List.getElem?_cons_succ, List.getElem?_cons_zero]; rfl) (by rfl) ?_
             apply Exists.intro
             refine ⟨fun wz hw _ => ?_, ?_⟩
             · have hcz := hw.cells.1
               go_simp
               (with_reducible exact Rg.up_value)
             simp only [Act.put, List.setIfInBounds_toArray, List.set_cons_zero, List.set_cons_succ])
            (refine Rr.wr_y (by simp only [List.getElem?_toArray, List.getElem?_cons_succ, List.getElem?_cons_zero]; rfl) (by rfl) ?_
             apply Exists.intro
             refine ⟨fun wz hw _ => ?_, ?_⟩
             · have hcz := hw.cells.1
               exact up_load26 (by rfl) ((hcz _ _ l18).trans v2) ((hcz _ _ l18).trans v3)
             simp only [Act.put, List.setIfInBounds_toArray, List.set_cons_zero, List.set_cons_succ])
            (refine Rr.wr_y (by simp only [List.getElem?_toArray, List.getElem?_cons_succ, List.getElem?_cons_zero]; rfl) (by rfl) ?_
             apply Exists.intro
             refine ⟨fun wz hw _ => ?_, ?_⟩
             · have hcz := hw.cells.1
               go_simp
               apply Rg.up_enter
               (with_reducible refine (refOf_any 0 _).mono ?_)
               rintro e w3 ⟨rfl, hb3⟩
               exact ⟨rfl, hb3⟩
             simp only [Act.put, List.setIfInBounds_toArray, List.set_cons_zero, List.set_cons_succ])
            (refine Rr.wr_y (by simp only [List.getElem?_toArray, List.getElem?_cons_succ, List.getElem?_cons_zero]; rfl) (by rfl) ?_
             apply Exists.intro
             refine ⟨fun wz hw _ => ?_, ?_⟩
             · have hcz := hw.cells.1
               go_simp
               (with_reducible exact Rg.up_value)
             simp only [Act.put, List.setIfInBounds_toArray, List.set_cons_zero, List.set_cons_succ])
            (refine Rr.wr_y (by simp only [List.getElem?_toArray, List.getElem?_cons_succ, List.getElem?_cons_zero]; rfl) (by rfl) ?_
             apply Exists.intro
             refine ⟨fun wz hw _ => ?_, ?_⟩
             · have hcz := hw.cells.1
               go_simp
               (with_reducible exact Rg.up_value)
             simp only [Act.put, List.setIfInBounds_toArray, List.set_cons_zero, List.set_cons_succ])
            (refine Rr.wr_y (by simp only [List.getElem?_toArray, List.getElem?_cons_succ, List.getElem?_cons_zero]; rfl) (by rfl) ?_
             apply Exists.intro
             refine ⟨fun wz hw _ => ?_, ?_⟩
             · have hcz := hw.cells.1
               go_simp
               (with_reducible exact Rg.up_value)
             simp only [Act.put, List.setIfInBounds_toArray, List.set_cons_zero, List.set_cons_succ])
            (refine Rr.wr_y (by simp only [List.getElem?_toArray, List.getElem?_cons_succ, List.getElem?_cons_zero]; rfl) (by rfl) ?_
             apply Exists.intro
             refine ⟨fun wz hw _ => ?_, ?_⟩
             · have hcz := hw.cells.1
               go_simp
               (with_reducible exact Rg.up_value)
             simp only [Act.put, List.setIfInBounds_toArray, List.set_cons_zero, List.set_cons_succ])
            (refine Rr.wr_y (by simp only [List.getElem?_toArray, List.getElem?_cons_succ, List.getElem?_cons_zero]; rfl) (by rfl) ?_
             apply Exists.intro
             refine ⟨fun wz hw _ => ?_, ?_⟩
             · have hcz := hw.cells.1
               go_simp
               (with_reducible exact Rg.up_value)
             simp only [Act.put, List.setIfInBounds_toArray, List.set_cons_zero, List.set_cons_succ])
            (refine Rr.wr_y (by simp only [List.getElem?_toArray, List.getElem?_cons_succ, List.getElem?_cons_zero]; rfl) (by rfl) ?_
             apply Exists.intro
             refine ⟨fun wz hw _ => ?_, ?_⟩
             · have hcz := hw.cells.1
               go_simp
               (with_reducible exact Rg.up_value)
             simp only [Act.put, List.setIfInBounds_toArray, List.set_cons_zero, List.set_cons_succ])
            (refine Rr.wr_y (by simp only [List.getElem?_toArray, List.getElem?_cons_succ, List.getElem?_cons_zero]; rfl) (by rfl) ?_
             apply Exists.intro
             refine ⟨fun wz hw _ => ?_, ?_⟩
             · have hcz := hw.cells.1
               go_simp
               (with_reducible exact Rg.up_value)
             simp only [Act.put, List.setIfInBounds_toArray, List.set_cons_zero, List.set_cons_succ])
            (refine Rr.wr_y (by simp only [List.getElem?_toArray, List.getElem?_cons_succ, List.getElem?_cons_zero]; rfl) (by rfl) ?_
             apply Exists.intro
             refine ⟨fun wz hw _ => ?_, ?_⟩
             · have hcz := hw.cells.1
               go_simp
               (with_reducible exact Rg.up_value)
             simp only [Act.put, List.setIfInBounds_toArray, List.set_cons_zero, List.set_cons_succ])
            (refine Rr.wr_y (by simp only [List.getElem?_toArray, List.getElem?_cons_succ, List.getElem?_cons_zero]; rfl) (by rfl) ?_
             apply Exists.intro
             refine ⟨fun wz hw _ => ?_, ?_⟩
             · have hcz := hw.cells.1
               go_simp
               (with_reducible exact Rg.up_value)
             simp only [Act.put, List.setIfInBounds_toArray, List.set_cons_zero, List.set_cons_succ])
            (refine Rr.wr_y (by simp only [List.getElem?_toArray, List.getElem?_cons_succ, List.getElem?_cons_zero]; rfl) (by rfl) ?_
             apply Exists.intro
             refine ⟨fun wz hw _ => ?_, ?_⟩
             · have hcz := hw.cells.1
               go_simp
               (with_reducible exact Rg.up_value)
             simp only [Act.put, List.setIfInBounds_toArray, List.set_cons_zero, List.set_cons_succ])
            (refine Rr.wr_y (by simp only [List.getElem?_toArray, List.getElem?_cons_succ, List.getElem?_cons_zero]; rfl) (by rfl) ?_
             apply Exists.intro
             refine ⟨fun wz hw _ => ?_, ?_⟩
             · have hcz := hw.cells.1
               go_simp
               (with_reducible exact Rg.up_value)
             simp only [Act.put, List.setIfInBounds_toArray, List.set_cons_zero, List.set_cons_succ])
            (refine Rr.wr_y (by simp only [List.getElem?_toArray, List.getElem?_cons_succ, List.getElem?_cons_zero]; rfl) (by rfl) ?_
             apply Exists.intro
             refine ⟨fun wz hw _ => ?_, ?_⟩
             · have hcz := hw.cells.1
               exact up_load26 (by rfl) ((hcz _ _ l21).trans v4) ((hcz _ _ l21).trans v5)
             simp only [Act.put, List.setIfInBounds_toArray, List.set_cons_zero, List.set_cons_succ])
            (refine Rr.wr_y (by simp only [List.getElem?_toArray, List.getElem?_cons_succ, List.getElem?_cons_zero]; rfl) (by rfl) ?_
             apply Exists.intro
             refine ⟨fun wz hw _ => ?_, ?_⟩
             · have hcz := hw.cells.1
               exact up_load26 (by rfl) ((hcz _ _ l23).trans v6) ((hcz _ _ l23).trans v7)
             simp only [Act.put, List.setIfInBounds_toArray, List.set_cons_zero, List.set_cons_succ])
            (refine Rr.wr_y (by simp only [List.getElem?_toArray, List.getElem?_cons_succ, List.getElem?_cons_zero]; rfl) (by rfl) ?_
             apply Exists.intro
             refine ⟨fun wz hw _ => ?_, ?_⟩
             · have hcz := hw.cells.1
               go_simp
               (with_reducible exact Rg.up_value)
             simp only [Act.put, List.setIfInBounds_toArray, List.set_cons_zero, List.set_cons_succ])
            (refine Rr.wr_y (by simp only [List.getElem?_toArray, List.getElem?_cons_succ, List.getElem?_cons_zero]; rfl) (by rfl) ?_
             apply Exists.intro
             refine ⟨fun wz hw _ => ?_, ?_⟩
             · have hcz := hw.cells.1
               go_simp
               (with_reducible exact Rg.up_value)
             simp only [Act.put, List.setIfInBounds_toArray, List.set_cons_zero, List.set_cons_succ])
            (refine Rr.wr_y (by simp only [List.getElem?_toArray, List.getElem?_cons_succ, List.getElem?_cons_zero]; rfl) (by rfl) ?_
             apply Exists.intro
             refine ⟨fun wz hw _ => ?_, ?_⟩
             · have hcz := hw.cells.1
               go_simp
               (with_reducible exact Rg.up_value)
             simp only [Act.put, List.setIfInBounds_toArray, List.set_cons_zero, List.set_cons_succ])
            refine Rr.wr_nil ?_
            intro wy hy hh
            simp only [List.length_cons, List.length_nil, List.drop_succ_cons, List.drop_zero, Nat.reduceAdd]
            clear hh
            go_wp2_with (fail)
            go_ret
            exact ⟨rfl, HX7.out.trans hy⟩
        · skip
          have hm2 : z.tmod 4 = 1 := by rw [Int.tmod_eq_emod_of_nonneg hz.1]; exact hm
          have HE1 : Hid (evalI [] (opE' subB (numE (a1, a2)) (numE (b1, b2))) = applyI 1 (a1, a2) (b1, b2)) := Lib.hid (eval2 [] 1 (by decide) HA.out HB.out)
          have HRES := Lib.hid (apply_ref 1 (by decide) HA.out HB.out)
          have HOP : Hid (∀ W, Calls Try.prog 26 #[rv (a1, a2), rv (b1, b2)] W fun e w' => e = .returned (rbv (refI 1 (a1, a2) (b1, b2))) ∧ Ext W w') := Lib.hid (fun W => rSub_any (a1, a2) (b1, b2) HA.out.1 HB.out.1 W)
          obtain ⟨⟨⟨u1, u2⟩, ok⟩, hu⟩ : ∃ y, y = refI 1 (a1, a2) (b1, b2) := ⟨_, rfl⟩
          obtain ⟨⟨⟨r1, r2⟩, rf⟩, hr⟩ : ∃ y, y = applyI 1 (a1, a2) (b1, b2) := ⟨_, rfl⟩
          rw [← hu] at HOP HRES
          rw [← hr] at HE1 HRES
          clear hu hr
          obtain ⟨-, -, e10, e11⟩ := HS4.out.ext HX5.out
          obtain ⟨f10, -, l10⟩ := Rg.cells_of e10
          obtain ⟨f11, -, l11⟩ := Rg.cells_of e11
          have q0 : W5.cell? ⟨p10, 0, none⟩ = some (.string numB) := f10 0
          have q1 : W5.cell? ⟨p10, 1, none⟩ = some (.int .i64 a1) := f10 1
          have q2 : W5.cell? ⟨p10, 2, none⟩ = some (.int .i64 a2) := f10 2
          have q3 : W5.cell? ⟨p10, 3, none⟩ = some (.string nilB) := f10 3
          have q4 : W5.cell? ⟨p10, 4, none⟩ = some (.slice none 0 0) := f10 4
          have o0 : W5.cell? ⟨p11, 0, none⟩ = some (.string numB) := f11 0
          have o1 : W5.cell? ⟨p11, 1, none⟩ = some (.int .i64 b1) := f11 1
          have o2 : W5.cell? ⟨p11, 2, none⟩ = some (.int .i64 b2) := f11 2
          have o3 : W5.cell? ⟨p11, 3, none⟩ = some (.string nilB) := f11 3
          have o4 : W5.cell? ⟨p11, 4, none⟩ = some (.slice none 0 0) := f11 4
          clear f10 f11 e10 e11
          go_upto_region 14 with (fail)
          have hx9 := Ext.alloc (Ext.refl W5) (.cells #[.string ⟨#[43]⟩, .string ⟨#[45]⟩, .string ⟨#[42]⟩, .string ⟨#[47]⟩] 9)
          go_upto_region 15 with (first
            | (go_at_call 24; (with_reducible refine (op_any All subB (numE (a1, a2)) (numE (b1, b2)) _ _ _ (Rd.leaf I2a.out) (Rd.leaf I2b.out) (fun _ _ => trivial)).mono ?_); rintro e wo ⟨vo, rfl, hxo, hro⟩; have HRO := Lib.hid hro; clear hro)
            | (go_at_call 17; (with_reducible refine (eval_ex [] (opE' subB (numE (a1, a2)) (numE (b1, b2))) _ _ _ _ HRO.out (vrd_nilW _) HE1.out).mono ?_); rintro e wp ⟨rfl, hxp⟩))
          have h21 : (wp.alloc (.cells #[.int .i64 r1, .int .i64 r2] 26)).heap[wp.heap.size]? = some (.cells #[.int .i64 r1, .int .i64 r2] 26) := block_new rfl
          have hx6 : Ext W5 (wp.alloc (.cells #[.int .i64 r1, .int .i64 r2] 26)) := (by with_reducible repeat (first | exact Ext.refl _ | assumption | apply Ext.drewN | apply Ext.drew | apply Ext.alloc | (refine Ext.setCell ?_ (by simp <;> omega) _) | (refine Ext.trans ?_ (by assumption))))
          have H21 := Lib.hid h21
          have HX6 := Lib.hid (HX5.out.trans hx6)
          have h18 := (hx6.block _ (Rg.lt_of_heap H18.out)).trans H18.out
          have H18b := Lib.hid h18
          clear h21 hx6 h18 hxp hxo HRO q0 q1 q2 q3 q4 o0 o1 o2 o3 o4 l10 l11 HE1 hx9
          generalize wp.alloc (.cells #[.int .i64 r1, .int .i64 r2] 26) = W6 at *
          generalize wp.heap.size = p21 at *
          obtain ⟨e8, e9, -, -⟩ := HS4.out.ext HX6.out
          refine Rr.wp_regionE [10] [(1, .y), (2, .y), (5, .y), (6, .y), (0, .m), (3, .y), (4, .y), (7, .y), (8, .y), (9, .y), (10, .y), (11, .m)] (fun i => if i = 0 then (.cells #[.func (.func 25) #[] #[], .func (.func 26) #[] #[], .func (.func 27) #[] #[], .func (.func 28) #[] #[]] 46, fun p => .slice (some ⟨p, 0, none⟩) 4 4) else (.cells #[.int .i64 0, .int .i64 0] 26, Rg.ptr)) (fun c a d v w h => by have h' : _ ∧ _ := h; exact ⟨(Rr.put_defers a d v).symm.trans h'.1, h'.2⟩) (by kernel_rfl) (by kernel_rfl) ?_
          (refine Rr.wr_y (by simp only [List.getElem?_toArray, List.getElem?_cons_succ, List.getElem?_cons_zero]; rfl) (by rfl) ?_
           apply Exists.intro
           refine ⟨fun wz hw _ => ?_, ?_⟩
           · have hcz := hw.cells.1
             go_simp
             (with_reducible exact Rg.up_value)
           simp only [Act.put, List.setIfInBounds_toArray, List.set_cons_zero, List.set_cons_succ])
          (refine Rr.wr_y (by simp only [List.getElem?_toArray, List.getElem?_cons_succ, List.getElem?_cons_zero]; rfl) (by rfl) ?_
           apply Exists.intro
           refine ⟨fun wz hw _ => ?_, ?_⟩
           · have hcz := hw.cells.1
             go_simp
             (with_reducible exact Rg.up_value)
           simp only [Act.put, List.setIfInBounds_toArray, List.set_cons_zero, List.set_cons_succ])
          (refine Rr.wr_y (by simp only [List.getElem?_toArray, List.getElem?_cons_succ, List.getElem?_cons_zero]; rfl) (by rfl) ?_
           apply Exists.intro
           refine ⟨fun wz hw _ => ?_, ?_⟩
           · have hcz := hw.cells.1
             exact up_row (by rfl) ((hw.block _ (Rg.lt_of_heap e8)).trans e8) Try.underlying26 (by kernel_rfl)
           simp only [Act.put, List.setIfInBounds_toArray, List.set_cons_zero, List.set_cons_succ])
          (refine Rr.wr_y (by simp only [List.getElem?_toArray, List.getElem?_cons_succ, List.getElem?_cons_zero]; rfl) (by rfl) ?_
           apply Exists.intro
           refine ⟨fun wz hw _ => ?_, ?_⟩
           · have hcz := hw.cells.1
             exact up_row (by rfl) ((hw.block _ (Rg.lt_of_heap e9)).trans e9) Try.underlying26 (by kernel_rfl)
           simp only [Act.put, List.setIfInBounds_toArray, List.set_cons_zero, List.set_cons_succ])
          refine Rr.wr_m (by simp only [List.getElem?_toArray, List.getElem?_cons_succ, List.getElem?_cons_zero]; rfl) (by rfl) (fun wz => by go_simp) (fun pf hpf => ?_)
          simp only [Act.put, List.setIfInBounds_toArray, List.set_cons_zero, List.set_cons_succ]
          (refine Rr.wr_y (by simp only [List.getElem?_toArray, List.getElem?_cons_succ, List.getElem?_cons_zero]; rfl) (by rfl) ?_
           apply Exists.intro
           refine ⟨fun wz hw _ => ?_, ?_⟩
           · have hcz := hw.cells.1
             go_simp
             (with_reducible exact Rg.up_value)
           simp only [Act.put, List.setIfInBounds_toArray, List.set_cons_zero, List.set_cons_succ])
          refine Rr.wr_y (by simp only [List.getElem?_toArray, List.getElem?_cons_succ, List.getElem?_cons_zero]; rfl) (by rfl) ⟨.func (.func 26) #[] #[], fun wz hw hh => ?_, ?_⟩
          · obtain ⟨-, hbk⟩ := hold0 hh
            obtain ⟨hbc, -, hbl⟩ := Rg.cells_of hbk
            have hbi : wz.cell? ⟨pf, 1, none⟩ = some (.func (.func 26) #[] #[]) := hbc 1
            clear hbk hbc hh
            go_simp
            (with_reducible exact Rg.up_value)
          simp only [Act.put, List.setIfInBounds_toArray, List.set_cons_zero, List.set_cons_succ]
          (refine Rr.wr_y (by simp only [List.getElem?_toArray, List.getElem?_cons_succ, List.getElem?_cons_zero]; rfl) (by rfl) ?_
           apply Exists.intro
           refine ⟨fun wz hw _ => ?_, ?_⟩
           · have hcz := hw.cells.1
             go_simp
             apply Rg.up_enter
             (with_reducible refine (HOP.out _).mono ?_)
             rintro e w3 ⟨rfl, hb3⟩
             exact ⟨rfl, hb3⟩
           simp only [Act.put, List.setIfInBounds_toArray, List.set_cons_zero, List.set_cons_succ])
          (refine Rr.wr_y (by simp only [List.getElem?_toArray, List.getElem?_cons_succ, List.getElem?_cons_zero]; rfl) (by rfl) ?_
           apply Exists.intro
           refine ⟨fun wz hw _ => ?_, ?_⟩
           · have hcz := hw.cells.1
             go_simp
             (with_reducible exact Rg.up_value)
           simp only [Act.put, List.setIfInBounds_toArray, List.set_cons_zero, List.set_cons_succ])
          (refine Rr.wr_y (by simp only [List.getElem?_toArray, List.getElem?_cons_succ, List.getElem?_cons_zero]; rfl) (by rfl) ?_
           apply Exists.intro
           refine ⟨fun wz hw _ => ?_, ?_⟩
           · have hcz := hw.cells.1
             go_simp
             (with_reducible exact Rg.up_value)
           simp only [Act.put, List.setIfInBounds_toArray, List.set_cons_zero, List.set_cons_succ])
          (refine Rr.wr_y (by simp only [List.getElem?_toArray, List.getElem?_cons_succ, List.getElem?_cons_zero]; rfl) (by rfl) ?_
           apply Exists.intro
           refine ⟨fun wz hw _ => ?_, ?_⟩
           · have hcz := hw.cells.1
             go_simp
             (with_reducible exact Rg.up_value)
           simp only [Act.put, List.setIfInBounds_toArray, List.set_cons_zero, List.set_cons_succ])
          refine Rr.wr_m (by simp only [List.getElem?_toArray, List.getElem?_cons_succ, List.getElem?_cons_zero]; rfl) (by rfl) (fun wz => by go_simp) (fun p23 hp23 => ?_)
          simp only [Act.put, List.setIfInBounds_toArray, List.set_cons_zero, List.set_cons_succ]
          refine Rr.wr_nil ?_
          intro wy hy hh
          simp only [List.length_cons, List.length_nil, List.drop_succ_cons, List.drop_zero, Nat.reduceAdd]
          obtain ⟨hb1, hb2⟩ := hh _ List.mem_cons_self
          clear hh
          refine wpList_store_row (hgd := rfl) 26 (.tmp 23) (.tmp 113) rfl p23 (by rfl) #[.int .i64 u1, .int .i64 u2] (by rfl) _ 26 hb2 (by rfl) (by kernel_rfl) (by intro v hv; simp at hv; rcases hv with rfl | rfl <;> rfl) ?_
          have h23 := setRow_heap wy p23 _ #[.int .i64 u1, .int .i64 u2] 26 _ hb2
          have hx7 : Ext W6 (wy.setRow p23 #[.int .i64 u1, .int .i64 u2]) := below_setRow hy hb1 _
          generalize wy.setRow p23 #[.int .i64 u1, .int .i64 u2] = W7 at *
          have h21 := (hx7.block _ (Rg.lt_of_heap H21.out)).trans H21.out
          have h18 := (hx7.block _ (Rg.lt_of_heap H18b.out)).trans H18b.out
          have HX7 := Lib.hid (HX34.out.trans (HX6.out.trans hx7))
          obtain ⟨-, e9', -, -⟩ := HS4.out.ext (HX6.out.trans hx7)
          obtain ⟨c9, -, l9⟩ := Rg.cells_of e9'
          obtain ⟨c18, -, l18⟩ := Rg.cells_of h18
          obtain ⟨c21, -, l21⟩ := Rg.cells_of h21
          obtain ⟨c23, -, l23⟩ := Rg.cells_of h23
          have v0 : W7.cell? ⟨p9, 0, none⟩ = some (.int .i64 b1) := c9 0
          have v2 : W7.cell? ⟨p18, 0, none⟩ = some (.int .i64 0) := c18 0
          have v3 : W7.cell? ⟨p18, 1, none⟩ = some (.int .i64 1) := c18 1
          have v4 : W7.cell? ⟨p21, 0, none⟩ = some (.int .i64 r1) := c21 0
          have v5 : W7.cell? ⟨p21, 1, none⟩ = some (.int .i64 r2) := c21 1
          have v6 : W7.cell? ⟨p23, 0, none⟩ = some (.int .i64 u1) := c23 0
          have v7 : W7.cell? ⟨p23, 1, none⟩ = some (.int .i64 u2) := c23 1
          have HNz := fun w => eql26 0 1 w
          have HNu := fun w => eql26 u1 u2 w
          clear hp23 hpf hb1 hb2 hy hx7 h18 h21 h23 c9 c18 c21 c23 e8 e9 e9'
          cases ok
          · obtain ⟨rfl, rfl, rfl⟩ : r1 = 0 ∧ r2 = 0 ∧ rf = 3 := by
              have h := HRES.out
              rw [if_neg (by simp), if_neg (by simp)] at h
              injection h with h1 h2
              injection h1 with h3 h4
              exact ⟨h3, h4, h2⟩
            go_upto_region 21 with (fail)
            refine Rr.wp_region ((List.range 24).map (fun i => (i, .y))) (fun _ => (.cells #[] 29, Rg.ptr)) (by kernel_rfl) (by kernel_rfl) ?_
            simp only [List.range, List.range.loop, List.map_cons, List.map_nil]
            (refine Rr.wr_y (by simp only [List.getElem?_toArray, List.getElem?_cons_succ, List.getElem?_cons_zero]; rfl) (by rfl) ?_
             apply Exists.intro
             refine ⟨fun wz hw _ => ?_, ?_⟩
             · have hcz := hw.cells.1
               go_simp
               (with_reducible exact Rg.up_value)
             simp only [Act.put, List.setIfInBounds_toArray, List.set_cons_zero, List.set_cons_succ])
            (refine Rr.wr_y (by simp only [List.getElem?_toArray, List.getElem?_cons_succ, List.getElem?_cons_zero]; rfl) (by rfl) ?_
             apply Exists.intro
             refine ⟨fun wz hw _ => ?_, ?_⟩
             · have hcz := hw.cells.1
               go_simp
               (with_reducible exact Rg.up_value)
             simp only [Act.put, List.setIfInBounds_toArray, List.set_cons_zero, List.set_cons_succ])
            (refine Rr.wr_y (by simp only [List.getElem?_toArray, List.getElem?_cons_succ, List.getElem?_cons_zero]; rfl) (by rfl) ?_
             apply Exists.intro
             refine ⟨fun wz hw _ => ?_, ?_⟩
             · have hcz := hw.cells.1
               go_simp
               (with_reducible exact Rg.up_value)
             simp only [Act.put, List.setIfInBounds_toArray, List.set_cons_zero, List.set_cons_succ])
            (refine Rr.wr_y (by simp only [List.getElem?_toArray, List.getElem?_cons_succ, List.getElem?_cons_zero]; rfl) (by rfl) ?_
             apply Exists.intro
             refine ⟨fun wz hw _ => ?_, ?_⟩
             · have hcz := hw.cells.1
               go_simp
               (with_reducible exact Rg.up_value)
             simp only [Act.put, List.setIfInBounds_toArray, List.set_cons_zero, List.set_cons_succ])
            (refine Rr.wr_y (by simp only [List.getElem?_toArray, List.getElem?_cons_succ, List.getElem?_cons_zero]; rfl) (by rfl) ?_
             apply Exists.intro
             refine ⟨fun wz hw _ => ?_, ?_⟩
             · have hcz := hw.cells.1
               go_simp
               (with_reducible exact Rg.up_value)
             simp only [Act.put, List.setIfInBounds_toArray, List.set_cons_zero, List.set_cons_succ])
            (refine Rr.wr_y (by simp only [List.getElem?_toArray, List.getElem?_cons_succ, List.getElem?_cons_zero]; rfl) (by rfl) ?_
             apply Exists.intro
             refine ⟨fun wz hw _ => ?_, ?_⟩
             · have hcz := hw.cells.1
               go_simp
               (with_reducible exact Rg.up_value)
             simp only [Act.put, List.setIfInBounds_toArray, List.set_cons_zero, List.set_cons_succ])
            (refine Rr.wr_y (by simp only [List.getElem?_toArray, List.getElem?_cons_succ, List.getElem?_cons_zero]; rfl) (by rfl) ?_
             apply Exists.intro
             refine ⟨fun wz hw _ => ?_, ?_⟩
             · have hcz := hw.cells.1
               exact up_load26 (by rfl) ((hcz _ _ l18).trans v2) ((hcz _ _ l18).trans v3)
             simp only [Act.put, List.setIfInBounds_toArray, List.set_cons_zero, List.set_cons_succ])
            (refine Rr.wr_y (by simp only [List.getElem?_toArray, List.getElem?_cons_succ, List.getElem?_cons_zero]; rfl) (by rfl) ?_
             apply Exists.intro
             refine ⟨fun wz hw _ => ?_, ?_⟩
             · have hcz := hw.cells.1
               go_simp
               apply Rg.up_enter
               (with_reducible refine (refOf_any 0 _).mono ?_)
               rintro e w3 ⟨rfl, hb3⟩
               exact ⟨rfl, hb3⟩
             simp only [Act.put, List.setIfInBounds_toArray, List.set_cons_zero, List.set_cons_succ])
            (refine Rr.wr_y (by simp only [List.getElem?_toArray, List.getElem?_cons_succ, List.getElem?_cons_zero]; rfl) (by rfl) ?_
             apply Exists.intro
             refine ⟨fun wz hw _ => ?_, ?_⟩
             · have hcz := hw.cells.1
               go_simp
               (with_reducible exact Rg.up_value)
             simp only [Act.put, List.setIfInBounds_toArray, List.set_cons_zero, List.set_cons_succ])
            (refine Rr.wr_y (by simp only [List.getElem?_toArray, List.getElem?_cons_succ, List.getElem?_cons_zero]; rfl) (by rfl) ?_
             apply Exists.intro
             refine ⟨fun wz hw _ => ?_, ?_⟩
             · have hcz := hw.cells.1
               go_simp
               (with_reducible exact Rg.up_value)
             simp only [Act.put, List.setIfInBounds_toArray, List.set_cons_zero, List.set_cons_succ])
            (refine Rr.wr_y (by simp only [List.getElem?_toArray, List.getElem?_cons_succ, List.getElem?_cons_zero]; rfl) (by rfl) ?_
             apply Exists.intro
             refine ⟨fun wz hw _ => ?_, ?_⟩
             · have hcz := hw.cells.1
               go_simp
               (with_reducible exact Rg.up_value)
             simp only [Act.put, List.setIfInBounds_toArray, List.set_cons_zero, List.set_cons_succ])
            (refine Rr.wr_y (by simp only [List.getElem?_toArray, List.getElem?_cons_succ, List.getElem?_cons_zero]; rfl) (by rfl) ?_
             apply Exists.intro
             refine ⟨fun wz hw _ => ?_, ?_⟩
             · have hcz := hw.cells.1
               go_simp
               (with_reducible exact Rg.up_value)
             simp only [Act.put, List.setIfInBounds_toArray, List.set_cons_zero, List.set_cons_succ])
            (refine Rr.wr_y (by simp only [List.getElem?_toArray, List.getElem?_cons_succ, List.getElem?_cons_zero]; rfl) (by rfl) ?_
             apply Exists.intro
             refine ⟨fun wz hw _ => ?_, ?_⟩
             · have hcz := hw.cells.1
               go_simp
               (with_reducible exact Rg.up_value)
             simp only [Act.put, List.setIfInBounds_toArray, List.set_cons_zero, List.set_cons_succ])
            (refine Rr.wr_y (by simp only [List.getElem?_toArray, List.getElem?_cons_succ, List.getElem?_cons_zero]; rfl) (by rfl) ?_
             apply Exists.intro
             refine ⟨fun wz hw _ => ?_, ?_⟩
             · have hcz := hw.cells.1
               go_simp
               (with_reducible exact Rg.up_value)
             simp only [Act.put, List.setIfInBounds_toArray, List.set_cons_zero, List.set_cons_succ])
            (refine Rr.wr_y (by simp only [List.getElem?_toArray, List.getElem?_cons_succ, List.getElem?_cons_zero]; rfl) (by rfl) ?_
             apply Exists.intro
             refine ⟨fun wz hw _ => ?_, ?_⟩
             · have hcz := hw.cells.1
               go_simp
               (with_reducible exact Rg.up_value)
             simp only [Act.put, List.setIfInBounds_toArray, List.set_cons_zero, List.set_cons_succ])
            (refine Rr.wr_y (by simp only [List.getElem?_toArray, List.getElem?_cons_succ, List.getElem?_cons_zero]; rfl) (by rfl) ?_
             apply Exists.intro
             refine ⟨fun wz hw _ => ?_, ?_⟩
             · have hcz := hw.cells.1
               go_simp
               (with_reducible exact Rg.up_value)
             simp only [Act.put, List.setIfInBounds_toArray, List.set_cons_zero, List.set_cons_succ])
            (refine Rr.wr_y (by simp only [List.getElem?_toArray, List.getElem?_cons_succ, List.getElem?_cons_zero]; rfl) (by rfl) ?_
             apply Exists.intro
             refine ⟨fun wz hw _ => ?_, ?_⟩
             · have hcz := hw.cells.1
               go_simp
               (with_reducible exact Rg.up_value)
             simp only [Act.put, List.setIfInBounds_toArray, List.set_cons_zero, List.set_cons_succ])
            (refine Rr.wr_y (by simp only [List.getElem?_toArray, List.getElem?_cons_succ, List.getElem?_cons_zero]; rfl) (by rfl) ?_
             apply Exists.intro
             refine ⟨fun wz hw _ => ?_, ?_⟩
             · have hcz := hw.cells.1
               go_simp
               (with_reducible exact Rg.up_value)
             simp only [Act.put, List.setIfInBounds_toArray, List.set_cons_zero, List.set_cons_succ])
            (refine Rr.wr_y (by simp only [List.getElem?_toArray, List.getElem?_cons_succ, List.getElem?_cons_zero]; rfl) (by rfl) ?_
             apply Exists.intro
             refine ⟨fun wz hw _ => ?_, ?_⟩
             · have hcz := hw.cells.1
               go_simp
               (with_reducible exact Rg.up_value)
             simp only [Act.put, List.setIfInBounds_toArray, List.set_cons_zero, List.set_cons_succ])
            refine Rr.wr_skip (by simp only [List.getElem?_toArray, List.getElem?_cons_succ, List.getElem?_cons_zero]; rfl) (by rfl) ?_
            simp only [Act.put, List.setIfInBounds_toArray, List.set_cons_zero, List.set_cons_succ]
            refine Rr.wr_skip (by simp only [List.getElem?_toArray, List.getElem?_cons_succ, List.getElem?_cons_zero]; rfl) (by rfl) ?_
            simp only [Act.put, List.setIfInBounds_toArray, List.set_cons_zero, List.set_cons_succ]
            refine Rr.wr_skip (by simp only [List.getElem?_toArray, List.getElem?_cons_succ, List.getElem?_cons_zero]; rfl) (by rfl) ?_
            simp only [Act.put, List.setIfInBounds_toArray, List.set_cons_zero, List.set_cons_succ]
            (refine Rr.wr_y (by simp only [List.getElem?_toArray, List.getElem?_cons_succ, List.getElem?_cons_zero]; rfl) (by rfl) ?_
             apply Exists.intro
             refine ⟨fun wz hw _ => ?_, ?_⟩
             · have hcz := hw.cells.1
               go_simp
               (with_reducible exact Rg.up_value)
             simp only [Act.put, List.setIfInBounds_toArray, List.set_cons_zero, List.set_cons_succ])
            (refine Rr.wr_y (by simp only [List.getElem?_toArray, List.getElem?_cons_succ, List.getElem?_cons_zero]; rfl) (by rfl) ?_
             apply Exists.intro
             refine ⟨fun wz hw _ => ?_, ?_⟩
             · have hcz := hw.cells.1
               go_simp
               (with_reducible exact Rg.up_value)
             simp only [Act.put, List.setIfInBounds_toArray, List.set_cons_zero, List.set_cons_succ])
            refine Rr.wr_nil ?_
            intro wy hy hh
            simp only [List.length_cons, List.length_nil, List.drop_succ_cons, List.drop_zero, Nat.reduceAdd]
            clear hh
            go_wp2_with (fail)
            go_ret
            exact ⟨rfl, HX7.out.trans hy⟩
          · obtain ⟨rfl, rfl, rfl⟩ : r1 = u1 ∧ r2 = u2 ∧ rf = 0 := by
              have h := HRES.out
              rw [if_neg (by simp), if_pos rfl] at h
              injection h with h1 h2
              injection h1 with h3 h4
              exact ⟨h3, h4, h2⟩
            go_upto_region 21 with (fail)
            refine Rr.wp_region ((List.range 24).map (fun i => (i, .y))) (fun _ => (.cells #[] 29, Rg.ptr)) (by kernel_rfl) (by kernel_rfl) ?_
            simp only [List.range, List.range.loop, List.map_cons, List.map_nil]
            (refine Rr.wr_y (by simp only [List.getElem?_toArray, List.getElem?_cons_succ, List.getElem?_cons_zero]; rfl) (by rfl) ?_
             apply Exists.intro
             refine ⟨fun wz hw _ => ?_, ?_⟩
             · have hcz := hw.cells.1
               go_simp
               (with_reducible exact Rg.up_value)
             simp only [Act.put, List.setIfInBounds_toArray, List.set_cons_zero, List.set_cons_succ])
            (refine Rr.wr_y (by simp only [List.getElem?_toArray, List.getElem?_cons_succ, List.getElem?_cons_zero]; rfl) (by rfl) ?_
             apply Exists.intro
             refine ⟨fun wz hw _ => ?_, ?_⟩
             · have hcz := hw.cells.1
               go_simp
               (with_reducible exact Rg.up_value)
             simp only [Act.put, List.setIfInBounds_toArray, List.set_cons_zero, List.set_cons_succ])
            (refine Rr.wr_y (by simp only [List.getElem?_toArray, List.getElem?_cons_succ, List.getElem?_cons_zero]; rfl) (by rfl) ?_
             apply Exists.intro
             refine ⟨fun wz hw _ => ?_, ?_⟩
             · have hcz := hw.cells.1
               go_simp
               (with_reducible exact Rg.up_value)
             simp only [Act.put, List.setIfInBounds_toArray, List.set_cons_zero, List.set_cons_succ])
            (refine Rr.wr_y (by simp only [List.getElem?_toArray, List.getElem?_cons_succ, List.getElem?_cons_zero]; rfl) (by rfl) ?_
             apply Exists.intro
             refine ⟨fun wz hw _ => ?_, ?_⟩
             · have hcz := hw.cells.1
               go_simp
               (with_reducible exact Rg.up_value)
             simp only [Act.put, List.setIfInBounds_toArray, List.set_cons_zero, List.set_cons_succ])
            (refine Rr.wr_y (by simp only [List.getElem?_toArray, List.getElem?_cons_succ, List.getElem?_cons_zero]; rfl) (by rfl) ?_
             apply Exists.intro
             refine ⟨fun wz hw _ => ?_, ?_⟩
             · have hcz := hw.cells.1
               go_simp
               (with_reducible exact Rg.up_value)
             simp only [Act.put, List.setIfInBounds_toArray, List.set_cons_zero, List.set_cons_succ])
            (refine Rr.wr_y (by simp only [List.getElem?_toArray, List.getElem?_cons_succ, List.getElem?_cons_zero]; rfl) (by rfl) ?_
             apply Exists.intro
             refine ⟨fun wz hw _ => ?_, ?_⟩
             · have hcz := hw.cells.1
               go_simp
               (with_reducible exact Rg.up_value)
             simp only [Act.put, List.setIfInBounds_toArray, List.set_cons_zero, List.set_cons_succ])
            (refine Rr.wr_y (by simp only [List.getElem?_toArray, List.getElem?_cons_succ, List.getElem?_cons_zero]; rfl) (by rfl) ?_
             apply Exists.intro
             refine ⟨fun wz hw _ => ?_, ?_⟩
             · have hcz := hw.cells.1
               exact up_load26 (by rfl) ((hcz _ _ l18).trans v2) ((hcz _ _ l18).trans v3)
             simp only [Act.put, List.setIfInBounds_toArray, List.set_cons_zero, List.set_cons_succ])
            (refine Rr.wr_y (by simp only [List.getElem?_toArray, List.getElem?_cons_succ, List.getElem?_cons_zero]; rfl) (by rfl) ?_
             apply Exists.intro
             refine ⟨fun wz hw _ => ?_, ?_⟩
             · have hcz := hw.cells.1
               go_simp
               apply Rg.up_enter
               (with_reducible refine (refOf_any 0 _).mono ?_)
               rintro e w3 ⟨rfl, hb3⟩
               exact ⟨rfl, hb3⟩
             simp only [Act.put, List.setIfInBounds_toArray, List.set_cons_zero, List.set_cons_succ])
            (refine Rr.wr_y (by simp only [List.getElem?_toArray, List.getElem?_cons_succ, List.getElem?_cons_zero]; rfl) (by rfl) ?_
             apply Exists.intro
             refine ⟨fun wz hw _ => ?_, ?_⟩
             · have hcz := hw.cells.1
               go_simp
               (with_reducible exact Rg.up_value)
             simp only [Act.put, List.setIfInBounds_toArray, List.set_cons_zero, List.set_cons_succ])
            (refine Rr.wr_y (by simp only [List.getElem?_toArray, List.getElem?_cons_succ, List.getElem?_cons_zero]; rfl) (by rfl) ?_
             apply Exists.intro
             refine ⟨fun wz hw _ => ?_, ?_⟩
             · have hcz := hw.cells.1
               go_simp
               (with_reducible exact Rg.up_value)
             simp only [Act.put, List.setIfInBounds_toArray, List.set_cons_zero, List.set_cons_succ])
            (refine Rr.wr_y (by simp only [List.getElem?_toArray, List.getElem?_cons_succ, List.getElem?_cons_zero]; rfl) (by rfl) ?_
             apply Exists.intro
             refine ⟨fun wz hw _ => ?_, ?_⟩
             · have hcz := hw.cells.1
               go_simp
               (with_reducible exact Rg.up_value)
             simp only [Act.put, List.setIfInBounds_toArray, List.set_cons_zero, List.set_cons_succ])
            (refine Rr.wr_y (by simp only [List.getElem?_toArray, List.getElem?_cons_succ, List.getElem?_cons_zero]; rfl) (by rfl) ?_
             apply Exists.intro
             refine ⟨fun wz hw _ => ?_, ?_⟩
             · have hcz := hw.cells.1
               go_simp
               (with_reducible exact Rg.up_value)
             simp only [Act.put, List.setIfInBounds_toArray, List.set_cons_zero, List.set_cons_succ])
            (refine Rr.wr_y (by simp only [List.getElem?_toArray, List.getElem?_cons_succ, List.getElem?_cons_zero]; rfl) (by rfl) ?_
             apply Exists.intro
             refine ⟨fun wz hw _ => ?_, ?_⟩
             · have hcz := hw.cells.1
               go_simp
               (with_reducible exact Rg.up_value)
             simp only [Act.put, List.setIfInBounds_toArray, List.set_cons_zero, List.set_cons_succ])
            (refine Rr.wr_y (by simp only [List.getElem?_toArray, List.getElem?_cons_succ, List.getElem?_cons_zero]; rfl) (by rfl) ?_
             apply Exists.intro
             refine ⟨fun wz hw _ => ?_, ?_⟩
             · have hcz := hw.cells.1
               go_simp
               (with_reducible exact Rg.up_value)
             simp only [Act.put, List.setIfInBounds_toArray, List.set_cons_zero, List.set_cons_succ])
            (refine Rr.wr_y (by simp only [List.getElem?_toArray, List.getElem?_cons_succ, List.getElem?_cons_zero]; rfl) (by rfl) ?_
             apply Exists.intro
             refine ⟨fun wz hw _ => ?_, ?_⟩
             · have hcz := hw.cells.1
               go_simp
               (with_reducible exact Rg.up_value)
             simp only [Act.put, List.setIfInBounds_toArray, List.set_cons_zero, List.set_cons_succ])
            (refine Rr.wr_y (by simp only [List.getElem?_toArray, List.getElem?_cons_succ, List.getElem?_cons_zero]; rfl) (by rfl) ?_
             apply Exists.intro
             refine ⟨fun wz hw _ => ?_, ?_⟩
             · have hcz := hw.cells.1
               go_simp
               (with_reducible exact Rg.up_value)
             simp only [Act.put, List.setIfInBounds_toArray, List.set_cons_zero, List.set_cons_succ])
            (refine Rr.wr_y (by simp only [List.getElem?_toArray, List.getElem?_cons_succ, List.getElem?_cons_zero]; rfl) (by rfl) ?_
             apply Exists.intro
             refine ⟨fun wz hw _ => ?_, ?_⟩
             · have hcz := hw.cells.1
               go_simp
               (with_reducible exact Rg.up_value)
             simp only [Act.put, List.setIfInBounds_toArray, List.set_cons_zero, List.set_cons_succ])
            (refine Rr.wr_y (by simp only [List.getElem?_toArray, List.getElem?_cons_succ, List.getElem?_cons_zero]; rfl) (by rfl) ?_
             apply Exists.intro
             refine ⟨fun wz hw _ => ?_, ?_⟩
             · have hcz := hw.cells.1
               go_simp
               (with_reducible exact Rg.up_value)
             simp only [Act.put, List.setIfInBounds_toArray, List.set_cons_zero, List.set_cons_succ])
            (refine Rr.wr_y (by simp only [List.getElem?_toArray, List.getElem?_cons_succ, List.getElem?_cons_zero]; rfl) (by rfl) ?_
             apply Exists.intro
             refine ⟨fun wz hw _ => ?_, ?_⟩
             · have hcz := hw.cells.1
               go_simp
               (with_reducible exact Rg.up_value)
             simp only [Act.put, List.setIfInBounds_toArray, List.set_cons_zero, List.set_cons_succ])
            (refine Rr.wr_y (by simp only [List.getElem?_toArray, List.getElem?_cons_succ, List.getElem?_cons_zero]; rfl) (by rfl) ?_
             apply Exists.intro
             refine ⟨fun wz hw _ => ?_, ?_⟩
             · have hcz := hw.cells.1
               exact up_load26 (by rfl) ((hcz _ _ l21).trans v4) ((hcz _ _ l21).trans v5)
             simp only [Act.put, List.setIfInBounds_toArray, List.set_cons_zero, List.set_cons_succ])
            (refine Rr.wr_y (by simp only [List.getElem?_toArray, List.getElem?_cons_succ, List.getElem?_cons_zero]; rfl) (by rfl) ?_
             apply Exists.intro
             refine ⟨fun wz hw _ => ?_, ?_⟩
             · have hcz := hw.cells.1
               exact up_load26 (by rfl) ((hcz _ _ l23).trans v6) ((hcz _ _ l23).trans v7)
             simp only [Act.put, List.setIfInBounds_toArray, List.set_cons_zero, List.set_cons_succ])
            (refine Rr.wr_y (by simp only [List.getElem?_toArray, List.getElem?_cons_succ, List.getElem?_cons_zero]; rfl) (by rfl) ?_
             apply Exists.intro
             refine ⟨fun wz hw _ => ?_, ?_⟩
             · have hcz := hw.cells.1
               go_simp
               (with_reducible exact Rg.up_value)
             simp only [Act.put, List.setIfInBounds_toArray, List.set_cons_zero, List.set_cons_succ])
            (refine Rr.wr_y (by simp only [List.getElem?_toArray, List.getElem?_cons_succ, List.getElem?_cons_zero]; rfl) (by rfl) ?_
             apply Exists.intro
             refine ⟨fun wz hw _ => ?_, ?_⟩
             · have hcz := hw.cells.1
               go_simp
               (with_reducible exact Rg.up_value)
             simp only [Act.put, List.setIfInBounds_toArray, List.set_cons_zero, List.set_cons_succ])
            (refine Rr.wr_y (by simp only [List.getElem?_toArray, List.getElem?_cons_succ, List.getElem?_cons_zero]; rfl) (by rfl) ?_
             apply Exists.intro
             refine ⟨fun wz hw _ => ?_, ?_⟩
             · have hcz := hw.cells.1
               go_simp
               (with_reducible exact Rg.up_value)
             simp only [Act.put, List.setIfInBounds_toArray, List.set_cons_zero, List.set_cons_succ])
            refine Rr.wr_nil ?_
            intro wy hy hh
            simp only [List.length_cons, List.length_nil, List.drop_succ_cons, List.drop_zero, Nat.reduceAdd]
            clear hh
            go_wp2_with (fail)
            go_ret
            exact ⟨rfl, HX7.out.trans hy⟩
        · skip
          have hm2 : z.tmod 4 = 2 := by rw [Int.tmod_eq_emod_of_nonneg hz.1]; exact hm
          have HE1 : Hid (evalI [] (opE' mulB (numE (a1, a2)) (numE (b1, b2))) = applyI 2 (a1, a2) (b1, b2)) := Lib.hid (eval2 [] 2 (by decide) HA.out HB.out)
          have HRES := Lib.hid (apply_ref 2 (by decide) HA.out HB.out)
          have HOP : Hid (∀ W, Calls Try.prog 27 #[rv (a1, a2), rv (b1, b2)] W fun e w' => e = .returned (rbv (refI 2 (a1, a2) (b1, b2))) ∧ Ext W w') := Lib.hid (fun W => rMul_any (a1, a2) (b1, b2) HA.out.1 HB.out.1 W)
          obtain ⟨⟨⟨u1, u2⟩, ok⟩, hu⟩ : ∃ y, y = refI 2 (a1, a2) (b1, b2) := ⟨_, rfl⟩
          obtain ⟨⟨⟨r1, r2⟩, rf⟩, hr⟩ : ∃ y, y = applyI 2 (a1, a2) (b1, b2) := ⟨_, rfl⟩
          rw [← hu] at HOP HRES
          rw [← hr] at HE1 HRES
          clear hu hr
          obtain ⟨-, -, e10, e11⟩ := HS4.out.ext HX5.out
          obtain ⟨f10, -, l10⟩ := Rg.cells_of e10
          obtain ⟨f11, -, l11⟩ := Rg.cells_of e11
          have q0 : W5.cell? ⟨p10, 0, none⟩ = some (.string numB) := f10 0
          have q1 : W5.cell? ⟨p10, 1, none⟩ = some (.int .i64 a1) := f10 1
          have q2 : W5.cell? ⟨p10, 2, none⟩ = some (.int .i64 a2) := f10 2
          have q3 : W5.cell? ⟨p10, 3, none⟩ = some (.string nilB) := f10 3
          have q4 : W5.cell? ⟨p10, 4, none⟩ = some (.slice none 0 0) := f10 4
          have o0 : W5.cell? ⟨p11, 0, none⟩ = some (.string numB) := f11 0
          have o1 : W5.cell? ⟨p11, 1, none⟩ = some (.int .i64 b1) := f11 1
          have o2 : W5.cell? ⟨p11, 2, none⟩ = some (.int .i64 b2) := f11 2
          have o3 : W5.cell? ⟨p11, 3, none⟩ = some (.string nilB) := f11 3
          have o4 : W5.cell? ⟨p11, 4, none⟩ = some (.slice none 0 0) := f11 4
          clear f10 f11 e10 e11
          go_upto_region 14 with (fail)
          have hx9 := Ext.alloc (Ext.refl W5) (.cells #[.string ⟨#[43]⟩, .string ⟨#[45]⟩, .string ⟨#[42]⟩, .string ⟨#[47]⟩] 9)
          go_upto_region 15 with (first
            | (go_at_call 24; (with_reducible refine (op_any All mulB (numE (a1, a2)) (numE (b1, b2)) _ _ _ (Rd.leaf I2a.out) (Rd.leaf I2b.out) (fun _ _ => trivial)).mono ?_); rintro e wo ⟨vo, rfl, hxo, hro⟩; have HRO := Lib.hid hro; clear hro)
            | (go_at_call 17; (with_reducible refine (eval_ex [] (opE' mulB (numE (a1, a2)) (numE (b1, b2))) _ _ _ _ HRO.out (vrd_nilW _) HE1.out).mono ?_); rintro e wp ⟨rfl, hxp⟩))
          have h21 : (wp.alloc (.cells #[.int .i64 r1, .int .i64 r2] 26)).heap[wp.heap.size]? = some (.cells #[.int .i64 r1, .int .i64 r2] 26) := block_new rfl
          have hx6 : Ext W5 (wp.alloc (.cells #[.int .i64 r1, .int .i64 r2] 26)) := (by with_reducible repeat (first | exact Ext.refl _ | assumption | apply Ext.drewN | apply Ext.drew | apply Ext.alloc | (refine Ext.setCell ?_ (by simp <;> omega) _) | (refine Ext.trans ?_ (by assumption))))
          have H21 := Lib.hid h21
          have HX6 := Lib.hid (HX5.out.trans hx6)
          have h18 := (hx6.block _ (Rg.lt_of_heap H18.out)).trans H18.out
          have H18b := Lib.hid h18
          clear h21 hx6 h18 hxp hxo HRO q0 q1 q2 q3 q4 o0 o1 o2 o3 o4 l10 l11 HE1 hx9
          generalize wp.alloc (.cells #[.int .i64 r1, .int .i64 r2] 26) = W6 at *
          generalize wp.heap.size = p21 at *
          obtain ⟨e8, e9, -, -⟩ := HS4.out.ext HX6.out
          refine Rr.wp_regionE [10] [(1, .y), (2, .y), (5, .y), (6, .y), (0, .m), (3, .y), (4, .y), (7, .y), (8, .y), (9, .y), (10, .y), (11, .m)] (fun i => if i = 0 then (.cells #[.func (.func 25) #[] #[], .func (.func 26) #[] #[], .func (.func 27) #[] #[], .func (.func 28) #[] #[]] 46, fun p => .slice (some ⟨p, 0, none⟩) 4 4) else (.cells #[.int .i64 0, .int .i64 0] 26, Rg.ptr)) (fun c a d v w h => by have h' : _ ∧ _ := h; exact ⟨(Rr.put_defers a d v).symm.trans h'.1, h'.2⟩) (by kernel_rfl) (by kernel_rfl) ?_
          (refine Rr.wr_y (by simp only [List.getElem?_toArray, List.getElem?_cons_succ, List.getElem?_cons_zero]; rfl) (by rfl) ?_
           apply Exists.intro
           refine ⟨fun wz hw _ => ?_, ?_⟩
           · have hcz := hw.cells.1
             go_simp
             (with_reducible exact Rg.up_value)
           simp only [Act.put, List.setIfInBounds_toArray, List.set_cons_zero, List.set_cons_succ])
          (refine Rr.wr_y (by simp only [List.getElem?_toArray, List.getElem?_cons_succ, List.getElem?_cons_zero]; rfl) (by rfl) ?_
           apply Exists.intro
           refine ⟨fun wz hw _ => ?_, ?_⟩
           · have hcz := hw.cells.1
             go_simp
             (with_reducible exact Rg.up_value)
           simp only [Act.put, List.setIfInBounds_toArray, List.set_cons_zero, List.set_cons_succ])
          (refine Rr.wr_y (by simp only [List.getElem?_toArray, List.getElem?_cons_succ, List.getElem?_cons_zero]; rfl) (by rfl) ?_
           apply Exists.intro
           refine ⟨fun wz hw _ => ?_, ?_⟩
           · have hcz := hw.cells.1
             exact up_row (by rfl) ((hw.block _ (Rg.lt_of_heap e8)).trans e8) Try.underlying26 (by kernel_rfl)
           simp only [Act.put, List.setIfInBounds_toArray, List.set_cons_zero, List.set_cons_succ])
          (refine Rr.wr_y (by simp only [List.getElem?_toArray, List.getElem?_cons_succ, List.getElem?_cons_zero]; rfl) (by rfl) ?_
           apply Exists.intro
           refine ⟨fun wz hw _ => ?_, ?_⟩
           · have hcz := hw.cells.1
             exact up_row (by rfl) ((hw.block _ (Rg.lt_of_heap e9)).trans e9) Try.underlying26 (by kernel_rfl)
           simp only [Act.put, List.setIfInBounds_toArray, List.set_cons_zero, List.set_cons_succ])
          refine Rr.wr_m (by simp only [List.getElem?_toArray, List.getElem?_cons_succ, List.getElem?_cons_zero]; rfl) (by rfl) (fun wz => by go_simp) (fun pf hpf => ?_)
          simp only [Act.put, List.setIfInBounds_toArray, List.set_cons_zero, List.set_cons_succ]
          (refine Rr.wr_y (by simp only [List.getElem?_toArray, List.getElem?_cons_succ, List.getElem?_cons_zero]; rfl) (by rfl) ?_
           apply Exists.intro
           refine ⟨fun wz hw _ => ?_, ?_⟩
           · have hcz := hw.cells.1
             go_simp
             (with_reducible exact Rg.up_value)
           simp only [Act.put, List.setIfInBounds_toArray, List.set_cons_zero, List.set_cons_succ])
          refine Rr.wr_y (by simp only [List.getElem?_toArray, List.getElem?_cons_succ, List.getElem?_cons_zero]; rfl) (by rfl) ⟨.func (.func 27) #[] #[], fun wz hw hh => ?_, ?_⟩
          · obtain ⟨-, hbk⟩ := hold0 hh
            obtain ⟨hbc, -, hbl⟩ := Rg.cells_of hbk
            have hbi : wz.cell? ⟨pf, 2, none⟩ = some (.func (.func 27) #[] #[]) := hbc 2
            clear hbk hbc hh
            go_simp
            (with_reducible exact Rg.up_value)
          simp only [Act.put, List.setIfInBounds_toArray, List.set_cons_zero, List.set_cons_succ]
          (refine Rr.wr_y (by simp only [List.getElem?_toArray, List.getElem?_cons_succ, List.getElem?_cons_zero]; rfl) (by rfl) ?_
           apply Exists.intro
           refine ⟨fun wz hw _ => ?_, ?_⟩
           · have hcz := hw.cells.1
             go_simp
             apply Rg.up_enter
             (with_reducible refine (HOP.out _).mono ?_)
             rintro e w3 ⟨rfl, hb3⟩
             exact ⟨rfl, hb3⟩
           simp only [Act.put, List.setIfInBounds_toArray, List.set_cons_zero, List.set_cons_succ])
          (refine Rr.wr_y (by simp only [List.getElem?_toArray, List.getElem?_cons_succ, List.getElem?_cons_zero]; rfl) (by rfl) ?_
           apply Exists.intro
           refine ⟨fun wz hw _ => ?_, ?_⟩
           · have hcz := hw.cells.1
             go_simp
             (with_reducible exact Rg.up_value)
           simp only [Act.put, List.setIfInBounds_toArray, List.set_cons_zero, List.set_cons_succ])
          (refine Rr.wr_y (by simp only [List.getElem?_toArray, List.getElem?_cons_succ, List.getElem?_cons_zero]; rfl) (by rfl) ?_
           apply Exists.intro
           refine ⟨fun wz hw _ => ?_, ?_⟩
           · have hcz := hw.cells.1
             go_simp
             (with_reducible exact Rg.up_value)
           simp only [Act.put, List.setIfInBounds_toArray, List.set_cons_zero, List.set_cons_succ])
          (refine Rr.wr_y (by simp only [List.getElem?_toArray, List.getElem?_cons_succ, List.getElem?_cons_zero]; rfl) (by rfl) ?_
           apply Exists.intro
           refine ⟨fun wz hw _ => ?_, ?_⟩
           · have hcz := hw.cells.1
             go_simp
             (with_reducible exact Rg.up_value)
           simp only [Act.put, List.setIfInBounds_toArray, List.set_cons_zero, List.set_cons_succ])
          refine Rr.wr_m (by simp only [List.getElem?_toArray, List.getElem?_cons_succ, List.getElem?_cons_zero]; rfl) (by rfl) (fun wz => by go_simp) (fun p23 hp23 => ?_)
          simp only [Act.put, List.setIfInBounds_toArray, List.set_cons_zero, List.set_cons_succ]
          refine Rr.wr_nil ?_
          intro wy hy hh
          simp only [List.length_cons, List.length_nil, List.drop_succ_cons, List.drop_zero, Nat.reduceAdd]
          obtain ⟨hb1, hb2⟩ := hh _ List.mem_cons_self
          clear hh
          refine wpList_store_row (hgd := rfl) 26 (.tmp 23) (.tmp 113) rfl p23 (by rfl) #[.int .i64 u1, .int .i64 u2] (by rfl) _ 26 hb2 (by rfl) (by kernel_rfl) (by intro v hv; simp at hv; rcases hv with rfl | rfl <;> rfl) ?_
          have h23 := setRow_heap wy p23 _ #[.int .i64 u1, .int .i64 u2] 26 _ hb2
          have hx7 : Ext W6 (wy.setRow p23 #[.int .i64 u1, .int .i64 u2]) := below_setRow hy hb1 _
          generalize wy.setRow p23 #[.int .i64 u1, .int .i64 u2] = W7 at *
          have h21 := (hx7.block _ (Rg.lt_of_heap H21.out)).trans H21.out
          have h18 := (hx7.block _ (Rg.lt_of_heap H18b.out)).trans H18b.out
          have HX7 := Lib.hid (HX34.out.trans (HX6.out.trans hx7))
          obtain ⟨-, e9', -, -⟩ := HS4.out.ext (HX6.out.trans hx7)
          obtain ⟨c9, -, l9⟩ := Rg.cells_of e9'
          obtain ⟨c18, -, l18⟩ := Rg.cells_of h18
          obtain ⟨c21, -, l21⟩ := Rg.cells_of h21
          obtain ⟨c23, -, l23⟩ := Rg.cells_of h23
          have v0 : W7.cell? ⟨p9, 0, none⟩ = some (.int .i64 b1) := c9 0
          have v2 : W7.cell? ⟨p18, 0, none⟩ = some (.int .i64 0) := c18 0
          have v3 : W7.cell? ⟨p18, 1, none⟩ = some (.int .i64 1) := c18 1
          have v4 : W7.cell? ⟨p21, 0, none⟩ = some (.int .i64 r1) := c21 0
          have v5 : W7.cell? ⟨p21, 1, none⟩ = some (.int .i64 r2) := c21 1
          have v6 : W7.cell? ⟨p23, 0, none⟩ = some (.int .i64 u1) := c23 0
          have v7 : W7.cell? ⟨p23, 1, none⟩ = some (.int .i64 u2) := c23 1
          have HNz := fun w => eql26 0 1 w
          have HNu := fun w => eql26 u1 u2 w
          clear hp23 hpf hb1 hb2 hy hx7 h18 h21 h23 c9 c18 c21 c23 e8 e9 e9'
          cases ok
          · obtain ⟨rfl, rfl, rfl⟩ : r1 = 0 ∧ r2 = 0 ∧ rf = 3 := by
              have h := HRES.out
              rw [if_neg (by simp), if_neg (by simp)] at h
              injection h with h1 h2
              injection h1 with h3 h4
              exact ⟨h3, h4, h2⟩
            go_upto_region 21 with (fail)
            refine Rr.wp_region ((List.range 24).map (fun i => (i, .y))) (fun _ => (.cells #[] 29, Rg.ptr)) (by kernel_rfl) (by kernel_rfl) ?_
            simp only [List.range, List.range.loop, List.map_cons, List.map_nil]
            (refine Rr.wr_y (by simp only [List.getElem?_toArray, List.getElem?_cons_succ, List.getElem?_cons_zero]; rfl) (by rfl) ?_
             apply Exists.intro
             refine ⟨fun wz hw _ => ?_, ?_⟩
             · have hcz := hw.cells.1
               go_simp
               (with_reducible exact Rg.up_value)
             simp only [Act.put, List.setIfInBounds_toArray, List.set_cons_zero, List.set_cons_succ])
            (refine Rr.wr_y (by simp only [List.getElem?_toArray, List.getElem?_cons_succ, List.getElem?_cons_zero]; rfl) (by rfl) ?_
             apply Exists.intro
             refine ⟨fun wz hw _ => ?_, ?_⟩
             · have hcz := hw.cells.1
               go_simp
               (with_reducible exact Rg.up_value)
             simp only [Act.put, List.setIfInBounds_toArray, List.set_cons_zero, List.set_cons_succ])
            (refine Rr.wr_y (by simp only [List.getElem?_toArray, List.getElem?_cons_succ, List.getElem?_cons_zero]; rfl) (by rfl) ?_
             apply Exists.intro
             refine ⟨fun wz hw _ => ?_, ?_⟩
             · have hcz := hw.cells.1
               go_simp
               (with_reducible exact Rg.up_value)
             simp only [Act.put, List.setIfInBounds_toArray, List.set_cons_zero, List.set_cons_succ])
            (refine Rr.wr_y (by simp only [List.getElem?_toArray, List.getElem?_cons_succ, List.getElem?_cons_zero]; rfl) (by rfl) ?_
             apply Exists.intro
             refine ⟨fun wz hw _ => ?_, ?_⟩
             · have hcz := hw.cells.1
               go_simp
               (with_reducible exact Rg.up_value)
             simp only [Act.put, List.setIfInBounds_toArray, List.set_cons_zero, List.set_cons_succ])
            (refine Rr.wr_y (by simp only [List.getElem?_toArray, List.getElem?_cons_succ, List.getElem?_cons_zero]; rfl) (by rfl) ?_
             apply Exists.intro
             refine ⟨fun wz hw _ => ?_, ?_⟩
             · have hcz := hw.cells.1
               go_simp
               (with_reducible exact Rg.up_value)
             simp only [Act.put, List.setIfInBounds_toArray, List.set_cons_zero, List.set_cons_succ])
            (refine Rr.wr_y (by simp only [List.getElem?_toArray, List.getElem?_cons_succ, List.getElem?_cons_zero]; rfl) (by rfl) ?_
             apply Exists.intro
             refine ⟨fun wz hw _ => ?_, ?_⟩
             · have hcz := hw.cells.1
               go_simp
               (with_reducible exact Rg.up_value)
             simp only [Act.put, List.setIfInBounds_toArray, List.set_cons_zero, List.set_cons_succ])
            (refine Rr.wr_y (by simp only [List.getElem?_toArray, List.getElem?_cons_succ, List.getElem?_cons_zero]; rfl) (by rfl) ?_
             apply Exists.intro
             refine ⟨fun wz hw _ => ?_, ?_⟩
             · have hcz := hw.cells.1
               exact up_load26 (by rfl) ((hcz _ _ l18).trans v2) ((hcz _ _ l18).trans v3)
             simp only [Act.put, List.setIfInBounds_toArray, List.set_cons_zero, List.set_cons_succ])
            (refine Rr.wr_y (by simp only [List.getElem?_toArray, List.getElem?_cons_succ, List.getElem?_cons_zero]; rfl) (by rfl) ?_
             apply Exists.intro
             refine ⟨fun wz hw _ => ?_, ?_⟩
             · have hcz := hw.cells.1
               go_simp
               apply Rg.up_enter
               (with_reducible refine (refOf_any 0 _).mono ?_)
               rintro e w3 ⟨rfl, hb3⟩
               exact ⟨rfl, hb3⟩
             simp only [Act.put, List.setIfInBounds_toArray, List.set_cons_zero, List.set_cons_succ])
            (refine Rr.wr_y (by simp only [List.getElem?_toArray, List.getElem?_cons_succ, List.getElem?_cons_zero]; rfl) (by rfl) ?_
             apply Exists.intro
             refine ⟨fun wz hw _ => ?_, ?_⟩
             · have hcz := hw.cells.1
               go_simp
               (with_reducible exact Rg.up_value)
             simp only [Act.put, List.setIfInBounds_toArray, List.set_cons_zero, List.set_cons_succ])
            (refine Rr.wr_y (by simp only [List.getElem?_toArray, List.getElem?_cons_succ, List.getElem?_cons_zero]; rfl) (by rfl) ?_
             apply Exists.intro
             refine ⟨fun wz hw _ => ?_, ?_⟩
             · have hcz := hw.cells.1
               go_simp
               (with_reducible exact Rg.up_value)
             simp only [Act.put, List.setIfInBounds_toArray, List.set_cons_zero, List.set_cons_succ])
            (refine Rr.wr_y (by simp only [List.getElem?_toArray, List.getElem?_cons_succ, List.getElem?_cons_zero]; rfl) (by rfl) ?_
             apply Exists.intro
             refine ⟨fun wz hw _ => ?_, ?_⟩
             · have hcz := hw.cells.1
               go_simp
               (with_reducible exact Rg.up_value)
             simp only [Act.put, List.setIfInBounds_toArray, List.set_cons_zero, List.set_cons_succ])
            (refine Rr.wr_y (by simp only [List.getElem?_toArray, List.getElem?_cons_succ, List.getElem?_cons_zero]; rfl) (by rfl) ?_
             apply Exists.intro
             refine ⟨fun wz hw _ => ?_, ?_⟩
             · have hcz := hw.cells.1
               go_simp
               (with_reducible exact Rg.up_value)
             simp only [Act.put, List.setIfInBounds_toArray, List.set_cons_zero, List.set_cons_succ])
            (refine Rr.wr_y (by simp only [List.getElem?_toArray, List.getElem?_cons_succ, List.getElem?_cons_zero]; rfl) (by rfl) ?_
             apply Exists.intro
             refine ⟨fun wz hw _ => ?_, ?_⟩
             · have hcz := hw.cells.1
               go_simp
               (with_reducible exact Rg.up_value)
             simp only [Act.put, List.setIfInBounds_toArray, List.set_cons_zero, List.set_cons_succ])
            (refine Rr.wr_y (by simp only [List.getElem?_toArray, List.getElem?_cons_succ, List.getElem?_cons_zero]; rfl) (by rfl) ?_
             apply Exists.intro
             refine ⟨fun wz hw _ => ?_, ?_⟩
             · have hcz := hw.cells.1
               go_simp
               (with_reducible exact Rg.up_value)
             simp only [Act.put, List.setIfInBounds_toArray, List.set_cons_zero, List.set_cons_succ])
            (refine Rr.wr_y (by simp only [List.getElem?_toArray, List.getElem?_cons_succ, List.getElem?_cons_zero]; rfl) (by rfl) ?_
             apply Exists.intro
             refine ⟨fun wz hw _ => ?_, ?_⟩
             · have hcz := hw.cells.1
               go_simp
               (with_reducible exact Rg.up_value)
             simp only [Act.put, List.setIfInBounds_toArray, List.set_cons_zero, List.set_cons_succ])
            (refine Rr.wr_y (by simp only [List.getElem?_toArray, List.getElem?_cons_succ, List.getElem?_cons_zero]; rfl) (by rfl) ?_
             apply Exists.intro
             refine ⟨fun wz hw _ => ?_, ?_⟩
             · have hcz := hw.cells.1
               go_simp
               (with_reducible exact Rg.up_value)
             simp only [Act.put, List.setIfInBounds_toArray, List.set_cons_zero, List.set_cons_succ])
            (refine Rr.wr_y (by simp only [List.getElem?_toArray, List.getElem?_cons_succ, List.getElem?_cons_zero]; rfl) (by rfl) ?_
             apply Exists.intro
             refine ⟨fun wz hw _ => ?_, ?_⟩
             · have hcz := hw.cells.1
               go_simp
               (with_reducible exact Rg.up_value)
             simp only [Act.put, List.setIfInBounds_toArray, List.set_cons_zero, List.set_cons_succ])
            (refine Rr.wr_y (by simp only [List.getElem?_toArray, List.getElem?_cons_succ, List.getElem?_cons_zero]; rfl) (by rfl) ?_
             apply Exists.intro
             refine ⟨fun wz hw _ => ?_, ?_⟩
             · have hcz := hw.cells.1
               go_simp
               (with_reducible exact Rg.up_value)
             simp only [Act.put, List.setIfInBounds_toArray, List.set_cons_zero, List.set_cons_succ])
            (refine Rr.wr_y (by simp only [List.getElem?_toArray, List.getElem?_cons_succ, List.getElem?_cons_zero]; rfl) (by rfl) ?_
             apply Exists.intro
             refine ⟨fun wz hw _ => ?_, ?_⟩
             · have hcz := hw.cells.1
               go_simp
               (with_reducible exact Rg.up_value)
             simp only [Act.put, List.setIfInBounds_toArray, List.set_cons_zero, List.set_cons_succ])
            refine Rr.wr_skip (by simp only [List.getElem?_toArray, List.getElem?_cons_succ, List.getElem?_cons_zero]; rfl) (by rfl) ?_
            simp only [Act.put, List.setIfInBounds_toArray, List.set_cons_zero, List.set_cons_succ]
            refine Rr.wr_skip (by simp only [List.getElem?_toArray, List.getElem?_cons_succ, List.getElem?_cons_zero]; rfl) (by rfl) ?_
            simp only [Act.put, List.setIfInBounds_toArray, List.set_cons_zero, List.set_cons_succ]
            refine Rr.wr_skip (by simp only [List.getElem?_toArray, List.getElem?_cons_succ, List.getElem?_cons_zero]; rfl) (by rfl) ?_
            simp only [Act.put, List.setIfInBounds_toArray, List.set_cons_zero, List.set_cons_succ]
            (refine Rr.wr_y (by simp only [List.getElem?_toArray, List.getElem?_cons_succ, List.getElem?_cons_zero]; rfl) (by rfl) ?_
             apply Exists.intro
             refine ⟨fun wz hw _ => ?_, ?_⟩
             · have hcz := hw.cells.1
               go_simp
               (with_reducible exact Rg.up_value)
             simp only [Act.put, List.setIfInBounds_toArray, List.set_cons_zero, List.set_cons_succ])
            (refine Rr.wr_y (by simp only [List.getElem?_toArray, List.getElem?_cons_succ, List.getElem?_cons_zero]; rfl) (by rfl) ?_
             apply Exists.intro
             refine ⟨fun wz hw _ => ?_, ?_⟩
             · have hcz := hw.cells.1
               go_simp
               (with_reducible exact Rg.up_value)
             simp only [Act.put, List.setIfInBounds_toArray, List.set_cons_zero, List.set_cons_succ])
            refine Rr.wr_nil ?_
            intro wy hy hh
            simp only [List.length_cons, List.length_nil, List.drop_succ_cons, List.drop_zero, Nat.reduceAdd]
            clear hh
            go_wp2_with (fail)
            go_ret
            exact ⟨rfl, HX7.out.trans hy⟩
          · obtain ⟨rfl, rfl, rfl⟩ : r1 = u1 ∧ r2 = u2 ∧ rf = 0 := by
              have h := HRES.out
              rw [if_neg (by simp), if_pos rfl] at h
              injection h with h1 h2
              injection h1 with h3 h4
              exact ⟨h3, h4, h2⟩
            go_upto_region 21 with (fail)
            refine Rr.wp_region ((List.range 24).map (fun i => (i, .y))) (fun _ => (.cells #[] 29, Rg.ptr)) (by kernel_rfl) (by kernel_rfl) ?_
            simp only [List.range, List.range.loop, List.map_cons, List.map_nil]
            (refine Rr.wr_y (by simp only [List.getElem?_toArray, List.getElem?_cons_succ, List.getElem?_cons_zero]; rfl) (by rfl) ?_
             apply Exists.intro
             refine ⟨fun wz hw _ => ?_, ?_⟩
             · have hcz := hw.cells.1
               go_simp
               (with_reducible exact Rg.up_value)
             simp only [Act.put, List.setIfInBounds_toArray, List.set_cons_zero, List.set_cons_succ])
            (refine Rr.wr_y (by simp only [List.getElem?_toArray, List.getElem?_cons_succ, List.getElem?_cons_zero]; rfl) (by rfl) ?_
             apply Exists.intro
             refine ⟨fun wz hw _ => ?_, ?_⟩
             · have hcz := hw.cells.1
               go_simp
               (with_reducible exact Rg.up_value)
             simp only [Act.put, List.setIfInBounds_toArray, List.set_cons_zero, List.set_cons_succ])
            (refine Rr.wr_y (by simp only [List.getElem?_toArray, List.getElem?_cons_succ, List.getElem?_cons_zero]; rfl) (by rfl) ?_
             apply Exists.intro
             refine ⟨fun wz hw _ => ?_, ?_⟩
             · have hcz := hw.cells.1
               go_simp
               (with_reducible exact Rg.up_value)
             simp only [Act.put, List.setIfInBounds_toArray, List.set_cons_zero, List.set_cons_succ])
            (refine Rr.wr_y (by simp only [List.getElem?_toArray, List.getElem?_cons_succ, List.getElem?_cons_zero]; rfl) (by rfl) ?_
             apply Exists.intro
             refine ⟨fun wz hw _ => ?_, ?_⟩
             · have hcz := hw.cells.1
               go_simp
               (with_reducible exact Rg.up_value)
             simp only [Act.put, List.setIfInBounds_toArray, List.set_cons_zero, List.set_cons_succ])
            (refine Rr.wr_y (by simp only [List.getElem?_toArray, List.getElem?_cons_succ, List.getElem?_cons_zero]; rfl) (by rfl) ?_
             apply Exists.intro
             refine ⟨fun wz hw _ => ?_, ?_⟩
             · have hcz := hw.cells.1
               go_simp
               (with_reducible exact Rg.up_value)
             simp only [Act.put, List.setIfInBounds_toArray, List.set_cons_zero, List.set_cons_succ])
            (refine Rr.wr_y (by simp only [List.getElem?_toArray, List.getElem?_cons_succ, List.getElem?_cons_zero]; rfl) (by rfl) ?_
             apply Exists.intro
             refine ⟨fun wz hw _ => ?_, ?_⟩
             · have hcz := hw.cells.1
               go_simp
               (with_reducible exact Rg.up_value)
             simp only [Act.put, List.setIfInBounds_toArray, List.set_cons_zero, List.set_cons_succ])
            (refine Rr.wr_y (by simp only [List.getElem?_toArray, List.getElem?_cons_succ, List.getElem?_cons_zero]; rfl) (by rfl) ?_
             apply Exists.intro
             refine ⟨fun wz hw _ => ?_, ?_⟩
             · have hcz := hw.cells.1
               exact up_load26 (by rfl) ((hcz _ _ l18).trans v2) ((hcz _ _ l18).trans v3)
             simp only [Act.put, List.setIfInBounds_toArray, List.set_cons_zero, List.set_cons_succ])
            (refine Rr.wr_y (by simp only [List.getElem?_toArray, List.getElem?_cons_succ, List.getElem?_cons_zero]; rfl) (by rfl) ?_
             apply Exists.intro
             refine ⟨fun wz hw _ => ?_, ?_⟩
             · have hcz := hw.cells.1
               go_simp
               apply Rg.up_enter
               (with_reducible refine (refOf_any 0 _).mono ?_)
               rintro e w3 ⟨rfl, hb3⟩
               exact ⟨rfl, hb3⟩
             simp only [Act.put, List.setIfInBounds_toArray, List.set_cons_zero, List.set_cons_succ])
            (refine Rr.wr_y (by simp only [List.getElem?_toArray, List.getElem?_cons_succ, List.getElem?_cons_zero]; rfl) (by rfl) ?_
             apply Exists.intro
             refine ⟨fun wz hw _ => ?_, ?_⟩
             · have hcz := hw.cells.1
               go_simp
               (with_reducible exact Rg.up_value)
             simp only [Act.put, List.setIfInBounds_toArray, List.set_cons_zero, List.set_cons_succ])
            (refine Rr.wr_y (by simp only [List.getElem?_toArray, List.getElem?_cons_succ, List.getElem?_cons_zero]; rfl) (by rfl) ?_
             apply Exists.intro
             refine ⟨fun wz hw _ => ?_, ?_⟩
             · have hcz := hw.cells.1
               go_simp
               (with_reducible exact Rg.up_value)
             simp only [Act.put, List.setIfInBounds_toArray, List.set_cons_zero, List.set_cons_succ])
            (refine Rr.wr_y (by simp only [List.getElem?_toArray, List.getElem?_cons_succ, List.getElem?_cons_zero]; rfl) (by rfl) ?_
             apply Exists.intro
             refine ⟨fun wz hw _ => ?_, ?_⟩
             · have hcz := hw.cells.1
               go_simp
               (with_reducible exact Rg.up_value)
             simp only [Act.put, List.setIfInBounds_toArray, List.set_cons_zero, List.set_cons_succ])
            (refine Rr.wr_y (by simp only [List.getElem?_toArray, List.getElem?_cons_succ, List.getElem?_cons_zero]; rfl) (by rfl) ?_
             apply Exists.intro
             refine ⟨fun wz hw _ => ?_, ?_⟩
             · have hcz := hw.cells.1
               go_simp
               (with_reducible exact Rg.up_value)
             simp only [Act.put, List.setIfInBounds_toArray, List.set_cons_zero, List.set_cons_succ])
            (refine Rr.wr_y (by simp only [List.getElem?_toArray, List.getElem?_cons_succ, List.getElem?_cons_zero]; rfl) (by rfl) ?_
             apply Exists.intro
             refine ⟨fun wz hw _ => ?_, ?_⟩
             · have hcz := hw.cells.1
               go_simp
               (with_reducible exact Rg.up_value)
             simp only [Act.put, List.setIfInBounds_toArray, List.set_cons_zero, List.set_cons_succ])
            (refine Rr.wr_y (by simp only [List.getElem?_toArray, List.getElem?_cons_succ, List.getElem?_cons_zero]; rfl) (by rfl) ?_
             apply Exists.intro
             refine ⟨fun wz hw _ => ?_, ?_⟩
             · have hcz := hw.cells.1
               go_simp
               (with_reducible exact Rg.up_value)
             simp only [Act.put, List.setIfInBounds_toArray, List.set_cons_zero, List.set_cons_succ])
            (refine Rr.wr_y (by simp only [List.getElem?_toArray, List.getElem?_cons_succ, List.getElem?_cons_zero]; rfl) (by rfl) ?_
             apply Exists.intro
             refine ⟨fun wz hw _ => ?_, ?_⟩
             · have hcz := hw.cells.1
               go_simp
               (with_reducible exact Rg.up_value)
             simp only [Act.put, List.setIfInBounds_toArray, List.set_cons_zero, List.set_cons_succ])
            (refine Rr.wr_y (by simp only [List.getElem?_toArray, List.getElem?_cons_succ, List.getElem?_cons_zero]; rfl) (by rfl) ?_
             apply Exists.intro
             refine ⟨fun wz hw _ => ?_, ?_⟩
             · have hcz := hw.cells.1
               go_simp
               (with_reducible exact Rg.up_value)
             simp only [Act.put, List.setIfInBounds_toArray, List.set_cons_zero, List.set_cons_succ])
            (refine Rr.wr_y (by simp only [List.getElem?_toArray, List.getElem?_cons_succ, List.getElem?_cons_zero]; rfl) (by rfl) ?_
             apply Exists.intro
             refine ⟨fun wz hw _ => ?_, ?_⟩
             · have hcz := hw.cells.1
               go_simp
               (with_reducible exact Rg.up_value)
             simp only [Act.put, List.setIfInBounds_toArray, List.set_cons_zero, List.set_cons_succ])
            (refine Rr.wr_y (by simp only [List.getElem?_toArray, List.getElem?_cons_succ, List.getElem?_cons_zero]; rfl) (by rfl) ?_
             apply Exists.intro
             refine ⟨fun wz hw _ => ?_, ?_⟩
             · have hcz := hw.cells.1
               go_simp
               (with_reducible exact Rg.up_value)
             simp only [Act.put, List.setIfInBounds_toArray, List.set_cons_zero, List.set_cons_succ])
            (refine Rr.wr_y (by simp only [List.getElem?_toArray, List.getElem?_cons_succ, List.getElem?_cons_zero]; rfl) (by rfl) ?_
             apply Exists.intro
             refine ⟨fun wz hw _ => ?_, ?_⟩
             · have hcz := hw.cells.1
               go_simp
               (with_reducible exact Rg.up_value)
             simp only [Act.put, List.setIfInBounds_toArray, List.set_cons_zero, List.set_cons_succ])
            (refine Rr.wr_y (by simp only [List.getElem?_toArray, List.getElem?_cons_succ, List.getElem?_cons_zero]; rfl) (by rfl) ?_
             apply Exists.intro
             refine ⟨fun wz hw _ => ?_, ?_⟩
             · have hcz := hw.cells.1
               exact up_load26 (by rfl) ((hcz _ _ l21).trans v4) ((hcz _ _ l21).trans v5)
             simp only [Act.put, List.setIfInBounds_toArray, List.set_cons_zero, List.set_cons_succ])
            (refine Rr.wr_y (by simp only [List.getElem?_toArray, List.getElem?_cons_succ, List.getElem?_cons_zero]; rfl) (by rfl) ?_
             apply Exists.intro
             refine ⟨fun wz hw _ => ?_, ?_⟩
             · have hcz := hw.cells.1
               exact up_load26 (by rfl) ((hcz _ _ l23).trans v6) ((hcz _ _ l23).trans v7)
             simp only [Act.put, List.setIfInBounds_toArray, List.set_cons_zero, List.set_cons_succ])
            (refine Rr.wr_y (by simp only [List.getElem?_toArray, List.getElem?_cons_succ, List.getElem?_cons_zero]; rfl) (by rfl) ?_
             apply Exists.intro
             refine ⟨fun wz hw _ => ?_, ?_⟩
             · have hcz := hw.cells.1
               go_simp
               (with_reducible exact Rg.up_value)
             simp only [Act.put, List.setIfInBounds_toArray, List.set_cons_zero, List.set_cons_succ])
            (refine Rr.wr_y (by simp only [List.getElem?_toArray, List.getElem?_cons_succ, List.getElem?_cons_zero]; rfl) (by rfl) ?_
             apply Exists.intro
             refine ⟨fun wz hw _ => ?_, ?_⟩
             · have hcz := hw.cells.1
               go_simp
               (with_reducible exact Rg.up_value)
             simp only [Act.put, List.setIfInBounds_toArray, List.set_cons_zero, List.set_cons_succ])
            (refine Rr.wr_y (by simp only [List.getElem?_toArray, List.getElem?_cons_succ, List.getElem?_cons_zero]; rfl) (by rfl) ?_
             apply Exists.intro
             refine ⟨fun wz hw _ => ?_, ?_⟩
             · have hcz := hw.cells.1
               go_simp
               (with_reducible exact Rg.up_value)
             simp only [Act.put, List.setIfInBounds_toArray, List.set_cons_zero, List.set_cons_succ])
            refine Rr.wr_nil ?_
            intro wy hy hh
            simp only [List.length_cons, List.length_nil, List.drop_succ_cons, List.drop_zero, Nat.reduceAdd]
            clear hh
            go_wp2_with (fail)
            go_ret
            exact ⟨rfl, HX7.out.trans hy⟩
        · skip
          have hm2 : z.tmod 4 = 3 := by rw [Int.tmod_eq_emod_of_nonneg hz.1]; exact hm
          have HE1 : Hid (evalI [] (opE' quoB (numE (a1, a2)) (numE (b1, b2))) = applyI 3 (a1, a2) (b1, b2)) := Lib.hid (eval2 [] 3 (by decide) HA.out HB.out)
          have HRES := Lib.hid (apply_ref 3 (by decide) HA.out HB.out)
          have HOP : Hid (∀ W, Calls Try.prog 28 #[rv (a1, a2), rv (b1, b2)] W fun e w' => e = .returned (rbv (refI 3 (a1, a2) (b1, b2))) ∧ Ext W w') := Lib.hid (fun W => rQuo_any (a1, a2) (b1, b2) HA.out.1 HB.out.1 W)
          obtain ⟨⟨⟨u1, u2⟩, ok⟩, hu⟩ : ∃ y, y = refI 3 (a1, a2) (b1, b2) := ⟨_, rfl⟩
          obtain ⟨⟨⟨r1, r2⟩, rf⟩, hr⟩ : ∃ y, y = applyI 3 (a1, a2) (b1, b2) := ⟨_, rfl⟩
          rw [← hu] at HOP HRES
          rw [← hr] at HE1 HRES
          clear hu hr
          obtain ⟨-, -, e10, e11⟩ := HS4.out.ext HX5.out
          obtain ⟨f10, -, l10⟩ := Rg.cells_of e10
          obtain ⟨f11, -, l11⟩ := Rg.cells_of e11
          have q0 : W5.cell? ⟨p10, 0, none⟩ = some (.string numB) := f10 0
          have q1 : W5.cell? ⟨p10, 1, none⟩ = some (.int .i64 a1) := f10 1
          have q2 : W5.cell? ⟨p10, 2, none⟩ = some (.int .i64 a2) := f10 2
          have q3 : W5.cell? ⟨p10, 3, none⟩ = some (.string nilB) := f10 3
          have q4 : W5.cell? ⟨p10, 4, none⟩ = some (.slice none 0 0) := f10 4
          have o0 : W5.cell? ⟨p11, 0, none⟩ = some (.string numB) := f11 0
          have o1 : W5.cell? ⟨p11, 1, none⟩ = some (.int .i64 b1) := f11 1
          have o2 : W5.cell? ⟨p11, 2, none⟩ = some (.int .i64 b2) := f11 2
          have o3 : W5.cell? ⟨p11, 3, none⟩ = some (.string nilB) := f11 3
          have o4 : W5.cell? ⟨p11, 4, none⟩ = some (.slice none 0 0) := f11 4
          clear f10 f11 e10 e11
          go_upto_region 14 with (fail)
          have hx9 := Ext.alloc (Ext.refl W5) (.cells #[.string ⟨#[43]⟩, .string ⟨#[45]⟩, .string ⟨#[42]⟩, .string ⟨#[47]⟩] 9)
          go_upto_region 15 with (first
            | (go_at_call 24; (with_reducible refine (op_any All quoB (numE (a1, a2)) (numE (b1, b2)) _ _ _ (Rd.leaf I2a.out) (Rd.leaf I2b.out) (fun _ _ => trivial)).mono ?_); rintro e wo ⟨vo, rfl, hxo, hro⟩; have HRO := Lib.hid hro; clear hro)
            | (go_at_call 17; (with_reducible refine (eval_ex [] (opE' quoB (numE (a1, a2)) (numE (b1, b2))) _ _ _ _ HRO.out (vrd_nilW _) HE1.out).mono ?_); rintro e wp ⟨rfl, hxp⟩))
          have h21 : (wp.alloc (.cells #[.int .i64 r1, .int .i64 r2] 26)).heap[wp.heap.size]? = some (.cells #[.int .i64 r1, .int .i64 r2] 26) := block_new rfl
          have hx6 : Ext W5 (wp.alloc (.cells #[.int .i64 r1, .int .i64 r2] 26)) := (by with_reducible repeat (first | exact Ext.refl _ | assumption | apply Ext.drewN | apply Ext.drew | apply Ext.alloc | (refine Ext.setCell ?_ (by simp <;> omega) _) | (refine Ext.trans ?_ (by assumption))))
          have H21 := Lib.hid h21
          have HX6 := Lib.hid (HX5.out.trans hx6)
          have h18 := (hx6.block _ (Rg.lt_of_heap H18.out)).trans H18.out
          have H18b := Lib.hid h18
          clear h21 hx6 h18 hxp hxo HRO q0 q1 q2 q3 q4 o0 o1 o2 o3 o4 l10 l11 HE1 hx9
          generalize wp.alloc (.cells #[.int .i64 r1, .int .i64 r2] 26) = W6 at *
          generalize wp.heap.size = p21 at *
          obtain ⟨e8, e9, -, -⟩ := HS4.out.ext HX6.out
          refine Rr.wp_regionE [10] [(1, .y), (2, .y), (5, .y), (6, .y), (0, .m), (3, .y), (4, .y), (7, .y), (8, .y), (9, .y), (10, .y), (11, .m)] (fun i => if i = 0 then (.cells #[.func (.func 25) #[] #[], .func (.func 26) #[] #[], .func (.func 27) #[] #[], .func (.func 28) #[] #[]] 46, fun p => .slice (some ⟨p, 0, none⟩) 4 4) else (.cells #[.int .i64 0, .int .i64 0] 26, Rg.ptr)) (fun c a d v w h => by have h' : _ ∧ _ := h; exact ⟨(Rr.put_defers a d v).symm.trans h'.1, h'.2⟩) (by kernel_rfl) (by kernel_rfl) ?_
          (refine Rr.wr_y (by simp only [List.getElem?_toArray, List.getElem?_cons_succ, List.getElem?_cons_zero]; rfl) (by rfl) ?_
           apply Exists.intro
           refine ⟨fun wz hw _ => ?_, ?_⟩
           · have hcz := hw.cells.1
             go_simp
             (with_reducible exact Rg.up_value)
           simp only [Act.put, List.setIfInBounds_toArray, List.set_cons_zero, List.set_cons_succ])
          (refine Rr.wr_y (by simp only [List.getElem?_toArray, List.getElem?_cons_succ, List.getElem?_cons_zero]; rfl) (by rfl) ?_
           apply Exists.intro
           refine ⟨fun wz hw _ => ?_, ?_⟩
           · have hcz := hw.cells.1
             go_simp
             (with_reducible exact Rg.up_value)
           simp only [Act.put, List.setIfInBounds_toArray, List.set_cons_zero, List.set_cons_succ])
          (refine Rr.wr_y (by simp only [List.getElem?_toArray, List.getElem?_cons_succ, List.getElem?_cons_zero]; rfl) (by rfl) ?_
           apply Exists.intro
           refine ⟨fun wz hw _ => ?_, ?_⟩
           · have hcz := hw.cells.1
             exact up_row (by rfl) ((hw.block _ (Rg.lt_of_heap e8)).trans e8) Try.underlying26 (by kernel_rfl)
           simp only [Act.put, List.setIfInBounds_toArray, List.set_cons_zero, List.set_cons_succ])
          (refine Rr.wr_y (by simp only [List.getElem?_toArray, List.getElem?_cons_succ, List.getElem?_cons_zero]; rfl) (by rfl) ?_
           apply Exists.intro
           refine ⟨fun wz hw _ => ?_, ?_⟩
           · have hcz := hw.cells.1
             exact up_row (by rfl) ((hw.block _ (Rg.lt_of_heap e9)).trans e9) Try.underlying26 (by kernel_rfl)
           simp only [Act.put, List.setIfInBounds_toArray, List.set_cons_zero, List.set_cons_succ])
          refine Rr.wr_m (by simp only [List.getElem?_toArray, List.getElem?_cons_succ, List.getElem?_cons_zero]; rfl) (by rfl) (fun wz => by go_simp) (fun pf hpf => ?_)
          simp only [Act.put, List.setIfInBounds_toArray, List.set_cons_zero, List.set_cons_succ]
          (refine Rr.wr_y (by simp only [List.getElem?_toArray, List.getElem?_cons_succ, List.getElem?_cons_zero]; rfl) (by rfl) ?_
           apply Exists.intro
           refine ⟨fun wz hw _ => ?_, ?_⟩
           · have hcz := hw.cells.1
             go_simp
             (with_reducible exact Rg.up_value)
           simp only [Act.put, List.setIfInBounds_toArray, List.set_cons_zero, List.set_cons_succ])
          refine Rr.wr_y (by simp only [List.getElem?_toArray, List.getElem?_cons_succ, List.getElem?_cons_zero]; rfl) (by rfl) ⟨.func (.func 28) #[] #[], fun wz hw hh => ?_, ?_⟩
          · obtain ⟨-, hbk⟩ := hold0 hh
            obtain ⟨hbc, -, hbl⟩ := Rg.cells_of hbk
            have hbi : wz.cell? ⟨pf, 3, none⟩ = some (.func (.func 28) #[] #[]) := hbc 3
            clear hbk hbc hh
            go_simp
            (with_reducible exact Rg.up_value)
          simp only [Act.put, List.setIfInBounds_toArray, List.set_cons_zero, List.set_cons_succ]
          (refine Rr.wr_y (by simp only [List.getElem?_toArray, List.getElem?_cons_succ, List.getElem?_cons_zero]; rfl) (by rfl) ?_
           apply Exists.intro
           refine ⟨fun wz hw _ => ?_, ?_⟩
           · have hcz := hw.cells.1
             go_simp
             apply Rg.up_enter
             (with_reducible refine (HOP.out _).mono ?_)
             rintro e w3 ⟨rfl, hb3⟩
             exact ⟨rfl, hb3⟩
           simp only [Act.put, List.setIfInBounds_toArray, List.set_cons_zero, List.set_cons_succ])
          (refine Rr.wr_y (by simp only [List.getElem?_toArray, List.getElem?_cons_succ, List.getElem?_cons_zero]; rfl) (by rfl) ?_
           apply Exists.intro
           refine ⟨fun wz hw _ => ?_, ?_⟩
           · have hcz := hw.cells.1
             go_simp
             (with_reducible exact Rg.up_value)
           simp only [Act.put, List.setIfInBounds_toArray, List.set_cons_zero, List.set_cons_succ])
          (refine Rr.wr_y (by simp only [List.getElem?_toArray, List.getElem?_cons_succ, List.getElem?_cons_zero]; rfl) (by rfl) ?_
           apply Exists.intro
           refine ⟨fun wz hw _ => ?_, ?_⟩
           · have hcz := hw.cells.1
             go_simp
             (with_reducible exact Rg.up_value)
           simp only [Act.put, List.setIfInBounds_toArray, List.set_cons_zero, List.set_cons_succ])
          (refine Rr.wr_y (by simp only [List.getElem?_toArray, List.getElem?_cons_succ, List.getElem?_cons_zero]; rfl) (by rfl) ?_
           apply Exists.intro
           refine ⟨fun wz hw _ => ?_, ?_⟩
           · have hcz := hw.cells.1
             go_simp
             (with_reducible exact Rg.up_value)
           simp only [Act.put, List.setIfInBounds_toArray, List.set_cons_zero, List.set_cons_succ])
          refine Rr.wr_m (by simp only [List.getElem?_toArray, List.getElem?_cons_succ, List.getElem?_cons_zero]; rfl) (by rfl) (fun wz => by go_simp) (fun p23 hp23 => ?_)
          simp only [Act.put, List.setIfInBounds_toArray, List.set_cons_zero, List.set_cons_succ]
          refine Rr.wr_nil ?_
          intro wy hy hh
          simp only [List.length_cons, List.length_nil, List.drop_succ_cons, List.drop_zero, Nat.reduceAdd]
          obtain ⟨hb1, hb2⟩ := hh _ List.mem_cons_self
          clear hh
          refine wpList_store_row (hgd := rfl) 26 (.tmp 23) (.tmp 113) rfl p23 (by rfl) #[.int .i64 u1, .int .i64 u2] (by rfl) _ 26 hb2 (by rfl) (by kernel_rfl) (by intro v hv; simp at hv; rcases hv with rfl | rfl <;> rfl) ?_
          have h23 := setRow_heap wy p23 _ #[.int .i64 u1, .int .i64 u2] 26 _ hb2
          have hx7 : Ext W6 (wy.setRow p23 #[.int .i64 u1, .int .i64 u2]) := below_setRow hy hb1 _
          generalize wy.setRow p23 #[.int .i64 u1, .int .i64 u2] = W7 at *
          have h21 := (hx7.block _ (Rg.lt_of_heap H21.out)).trans H21.out
          have h18 := (hx7.block _ (Rg.lt_of_heap H18b.out)).trans H18b.out
          have HX7 := Lib.hid (HX34.out.trans (HX6.out.trans hx7))
          obtain ⟨-, e9', -, -⟩ := HS4.out.ext (HX6.out.trans hx7)
          obtain ⟨c9, -, l9⟩ := Rg.cells_of e9'
          obtain ⟨c18, -, l18⟩ := Rg.cells_of h18
          obtain ⟨c21, -, l21⟩ := Rg.cells_of h21
          obtain ⟨c23, -, l23⟩ := Rg.cells_of h23
          have v0 : W7.cell? ⟨p9, 0, none⟩ = some (.int .i64 b1) := c9 0
          have v2 : W7.cell? ⟨p18, 0, none⟩ = some (.int .i64 0) := c18 0
          have v3 : W7.cell? ⟨p18, 1, none⟩ = some (.int .i64 1) := c18 1
          have v4 : W7.cell? ⟨p21, 0, none⟩ = some (.int .i64 r1) := c21 0
          have v5 : W7.cell? ⟨p21, 1, none⟩ = some (.int .i64 r2) := c21 1
          have v6 : W7.cell? ⟨p23, 0, none⟩ = some (.int .i64 u1) := c23 0
          have v7 : W7.cell? ⟨p23, 1, none⟩ = some (.int .i64 u2) := c23 1
          have HNz := fun w => eql26 0 1 w
          have HNu := fun w => eql26 u1 u2 w
          clear hp23 hpf hb1 hb2 hy hx7 h18 h21 h23 c9 c18 c21 c23 e8 e9 e9'
          by_cases hb0 : b1 = 0
          · have hbz : (b1 == 0) = true := by rw [beq_iff_eq]; exact hb0
            obtain ⟨rfl, rfl, rfl⟩ : r1 = 0 ∧ r2 = 0 ∧ rf = 15 := by
              have h := HRES.out
              rw [if_pos (by first | exact ⟨rfl, hb0⟩ | exact ⟨trivial, hb0⟩)] at h
              injection h with h1 h2
              injection h1 with h3 h4
              exact ⟨h3, h4, h2⟩
            clear hb0
            go_upto_region 21 with (fail)
            refine Rr.wp_region ((List.range 24).map (fun i => (i, .y))) (fun _ => (.cells #[] 29, Rg.ptr)) (by kernel_rfl) (by kernel_rfl) ?_
            simp only [List.range, List.range.loop, List.map_cons, List.map_nil]
            (refine Rr.wr_y (by simp only [List.getElem?_toArray, List.getElem?_cons_succ, List.getElem?_cons_zero]; rfl) (by rfl) ?_
             apply Exists.intro
             refine ⟨fun wz hw _ => ?_, ?_⟩
             · have hcz := hw.cells.1
               go_simp
               (with_reducible exact Rg.up_value)
             simp only [Act.put, List.setIfInBounds_toArray, List.set_cons_zero, List.set_cons_succ])
            (refine Rr.wr_y (by simp only [List.getElem?_toArray, List.getElem?_cons_succ, List.getElem?_cons_zero]; rfl) (by rfl) ?_
             apply Exists.intro
             refine ⟨fun wz hw _ => ?_, ?_⟩
             · have hcz := hw.cells.1
               go_simp
               (with_reducible exact Rg.up_value)
             simp only [Act.put, List.setIfInBounds_toArray, List.set_cons_zero, List.set_cons_succ])
            (refine Rr.wr_y (by simp only [List.getElem?_toArray, List.getElem?_cons_succ, List.getElem?_cons_zero]; rfl) (by rfl) ?_
             apply Exists.intro
             refine ⟨fun wz hw _ => ?_, ?_⟩
             · have hcz := hw.cells.1
               go_simp
               (with_reducible exact Rg.up_value)
             simp only [Act.put, List.setIfInBounds_toArray, List.set_cons_zero, List.set_cons_succ])
            (refine Rr.wr_y (by simp only [List.getElem?_toArray, List.getElem?_cons_succ, List.getElem?_cons_zero]; rfl) (by rfl) ?_
             apply Exists.intro
             refine ⟨fun wz hw _ => ?_, ?_⟩
             · have hcz := hw.cells.1
               go_simp
               (with_reducible exact Rg.up_value)
             simp only [Act.put, List.setIfInBounds_toArray, List.set_cons_zero, List.set_cons_succ])
            (refine Rr.wr_y (by simp only [List.getElem?_toArray, List.getElem?_cons_succ, List.getElem?_cons_zero]; rfl) (by rfl) ?_
             apply Exists.intro
             refine ⟨fun wz hw _ => ?_, ?_⟩
             · have hcz := hw.cells.1
               go_simp
               (with_reducible exact Rg.up_value)
             simp only [Act.put, List.setIfInBounds_toArray, List.set_cons_zero, List.set_cons_succ])
            (refine Rr.wr_y (by simp only [List.getElem?_toArray, List.getElem?_cons_succ, List.getElem?_cons_zero]; rfl) (by rfl) ?_
             apply Exists.intro
             refine ⟨fun wz hw _ => ?_, ?_⟩
             · have hcz := hw.cells.1
               go_simp
               (with_reducible exact Rg.up_value)
             simp only [Act.put, List.setIfInBounds_toArray, List.set_cons_zero, List.set_cons_succ])
            (refine Rr.wr_y (by simp only [List.getElem?_toArray, List.getElem?_cons_succ, List.getElem?_cons_zero]; rfl) (by rfl) ?_
             apply Exists.intro
             refine ⟨fun wz hw _ => ?_, ?_⟩
             · have hcz := hw.cells.1
               exact up_load26 (by rfl) ((hcz _ _ l18).trans v2) ((hcz _ _ l18).trans v3)
             simp only [Act.put, List.setIfInBounds_toArray, List.set_cons_zero, List.set_cons_succ])
            (refine Rr.wr_y (by simp only [List.getElem?_toArray, List.getElem?_cons_succ, List.getElem?_cons_zero]; rfl) (by rfl) ?_
             apply Exists.intro
             refine ⟨fun wz hw _ => ?_, ?_⟩
             · have hcz := hw.cells.1
               go_simp
               apply Rg.up_enter
               (with_reducible refine (refOf_any 0 _).mono ?_)
               rintro e w3 ⟨rfl, hb3⟩
               exact ⟨rfl, hb3⟩
             simp only [Act.put, List.setIfInBounds_toArray, List.set_cons_zero, List.set_cons_succ])
            (refine Rr.wr_y (by simp only [List.getElem?_toArray, List.getElem?_cons_succ, List.getElem?_cons_zero]; rfl) (by rfl) ?_
             apply Exists.intro
             refine ⟨fun wz hw _ => ?_, ?_⟩
             · have hcz := hw.cells.1
               go_simp
               (with_reducible exact Rg.up_value)
             simp only [Act.put, List.setIfInBounds_toArray, List.set_cons_zero, List.set_cons_succ])
            (refine Rr.wr_y (by simp only [List.getElem?_toArray, List.getElem?_cons_succ, List.getElem?_cons_zero]; rfl) (by rfl) ?_
             apply Exists.intro
             refine ⟨fun wz hw _ => ?_, ?_⟩
             · have hcz := hw.cells.1
               go_simp
               (with_reducible exact Rg.up_value)
             simp only [Act.put, List.setIfInBounds_toArray, List.set_cons_zero, List.set_cons_succ])
            (refine Rr.wr_y (by simp only [List.getElem?_toArray, List.getElem?_cons_succ, List.getElem?_cons_zero]; rfl) (by rfl) ?_
             apply Exists.intro
             refine ⟨fun wz hw _ => ?_, ?_⟩
             · have hcz := hw.cells.1
               go_simp
               (with_reducible exact Rg.up_value)
             simp only [Act.put, List.setIfInBounds_toArray, List.set_cons_zero, List.set_cons_succ])
            (refine Rr.wr_y (by simp only [List.getElem?_toArray, List.getElem?_cons_succ, List.getElem?_cons_zero]; rfl) (by rfl) ?_
             apply Exists.intro
             refine ⟨fun wz hw _ => ?_, ?_⟩
             · have hcz := hw.cells.1
               go_simp
               (with_reducible exact Rg.up_value)
             simp only [Act.put, List.setIfInBounds_toArray, List.set_cons_zero, List.set_cons_succ])
            (refine Rr.wr_y (by simp only [List.getElem?_toArray, List.getElem?_cons_succ, List.getElem?_cons_zero]; rfl) (by rfl) ?_
             apply Exists.intro
             refine ⟨fun wz hw _ => ?_, ?_⟩
             · have hcz := hw.cells.1
               go_simp
               (with_reducible exact Rg.up_value)
             simp only [Act.put, List.setIfInBounds_toArray, List.set_cons_zero, List.set_cons_succ])
            (refine Rr.wr_y (by simp only [List.getElem?_toArray, List.getElem?_cons_succ, List.getElem?_cons_zero]; rfl) (by rfl) ?_
             apply Exists.intro
             refine ⟨fun wz hw _ => ?_, ?_⟩
             · have hcz := hw.cells.1
               go_simp
               (with_reducible exact Rg.up_value)
             simp only [Act.put, List.setIfInBounds_toArray, List.set_cons_zero, List.set_cons_succ])
            (refine Rr.wr_y (by simp only [List.getElem?_toArray, List.getElem?_cons_succ, List.getElem?_cons_zero]; rfl) (by rfl) ?_
             apply Exists.intro
             refine ⟨fun wz hw _ => ?_, ?_⟩
             · have hcz := hw.cells.1
               go_simp
               (with_reducible exact Rg.up_value)
             simp only [Act.put, List.setIfInBounds_toArray, List.set_cons_zero, List.set_cons_succ])
            (refine Rr.wr_y (by simp only [List.getElem?_toArray, List.getElem?_cons_succ, List.getElem?_cons_zero]; rfl) (by rfl) ?_
             apply Exists.intro
             refine ⟨fun wz hw _ => ?_, ?_⟩
             · have hcz := hw.cells.1
               go_simp
               (with_reducible exact Rg.up_value)
             simp only [Act.put, List.setIfInBounds_toArray, List.set_cons_zero, List.set_cons_succ])
            (refine Rr.wr_y (by simp only [List.getElem?_toArray, List.getElem?_cons_succ, List.getElem?_cons_zero]; rfl) (by rfl) ?_
             apply Exists.intro
             refine ⟨fun wz hw _ => ?_, ?_⟩
             · have hcz := hw.cells.1
               go_simp
               (with_reducible exact Rg.up_value)
             simp only [Act.put, List.setIfInBounds_toArray, List.set_cons_zero, List.set_cons_succ])
            (refine Rr.wr_y (by simp only [List.getElem?_toArray, List.getElem?_cons_succ, List.getElem?_cons_zero]; rfl) (by rfl) ?_
             apply Exists.intro
             refine ⟨fun wz hw _ => ?_, ?_⟩
             · have hcz := hw.cells.1
               go_simp
               (with_reducible exact Rg.up_value)
             simp only [Act.put, List.setIfInBounds_toArray, List.set_cons_zero, List.set_cons_succ])
            (refine Rr.wr_y (by simp only [List.getElem?_toArray, List.getElem?_cons_succ, List.getElem?_cons_zero]; rfl) (by rfl) ?_
             apply Exists.intro
             refine ⟨fun wz hw _ => ?_, ?_⟩
             · have hcz := hw.cells.1
               go_simp
               (with_reducible exact Rg.up_value)
             simp only [Act.put, List.setIfInBounds_toArray, List.set_cons_zero, List.set_cons_succ])
            refine Rr.wr_skip (by simp only [List.getElem?_toArray, List.getElem?_cons_succ, List.getElem?_cons_zero]; rfl) (by rfl) ?_
            simp only [Act.put, List.setIfInBounds_toArray, List.set_cons_zero, List.set_cons_succ]
            refine Rr.wr_skip (by simp only [List.getElem?_toArray, List.getElem?_cons_succ, List.getElem?_cons_zero]; rfl) (by rfl) ?_
            simp only [Act.put, List.setIfInBounds_toArray, List.set_cons_zero, List.set_cons_succ]
            refine Rr.wr_skip (by simp only [List.getElem?_toArray, List.getElem?_cons_succ, List.getElem?_cons_zero]; rfl) (by rfl) ?_
            simp only [Act.put, List.setIfInBounds_toArray, List.set_cons_zero, List.set_cons_succ]
            (refine Rr.wr_y (by simp only [List.getElem?_toArray, List.getElem?_cons_succ, List.getElem?_cons_zero]; rfl) (by rfl) ?_
             apply Exists.intro
             refine ⟨fun wz hw _ => ?_, ?_⟩
             · have hcz := hw.cells.1
               go_simp
               (with_reducible exact Rg.up_value)
             simp only [Act.put, List.setIfInBounds_toArray, List.set_cons_zero, List.set_cons_succ])
            (refine Rr.wr_y (by simp only [List.getElem?_toArray, List.getElem?_cons_succ, List.getElem?_cons_zero]; rfl) (by rfl) ?_
             apply Exists.intro
             refine ⟨fun wz hw _ => ?_, ?_⟩
             · have hcz := hw.cells.1
               go_simp
               (with_reducible exact Rg.up_value)
             simp only [Act.put, List.setIfInBounds_toArray, List.set_cons_zero, List.set_cons_succ])
            refine Rr.wr_nil ?_
            intro wy hy hh
            simp only [List.length_cons, List.length_nil, List.drop_succ_cons, List.drop_zero, Nat.reduceAdd]
            clear hh
            go_wp2_with (fail)
            go_ret
            exact ⟨rfl, HX7.out.trans hy⟩
          · have hbz : (b1 == 0) = false := by rw [beq_eq_false_iff_ne]; exact hb0
            cases ok
            · obtain ⟨rfl, rfl, rfl⟩ : r1 = 0 ∧ r2 = 0 ∧ rf = 3 := by
                have h := HRES.out
                rw [if_neg (fun h => hb0 h.2), if_neg (by simp)] at h
                injection h with h1 h2
                injection h1 with h3 h4
                exact ⟨h3, h4, h2⟩
              go_upto_region 21 with (fail)
              refine Rr.wp_region ((List.range 24).map (fun i => (i, .y))) (fun _ => (.cells #[] 29, Rg.ptr)) (by kernel_rfl) (by kernel_rfl) ?_
              simp only [List.range, List.range.loop, List.map_cons, List.map_nil]
              (refine Rr.wr_y (by simp only [List.getElem?_toArray, List.getElem?_cons_succ, List.getElem?_cons_zero]; rfl) (by rfl) ?_
               apply Exists.intro
               refine ⟨fun wz hw _ => ?_, ?_⟩
               · have hcz := hw.cells.1
                 go_simp
                 (with_reducible exact Rg.up_value)
               simp only [Act.put, List.setIfInBounds_toArray, List.set_cons_zero, List.set_cons_succ])
              (refine Rr.wr_y (by simp only [List.getElem?_toArray, List.getElem?_cons_succ, List.getElem?_cons_zero]; rfl) (by rfl) ?_
               apply Exists.intro
               refine ⟨fun wz hw _ => ?_, ?_⟩
               · have hcz := hw.cells.1
                 go_simp
                 (with_reducible exact Rg.up_value)
               simp only [Act.put, List.setIfInBounds_toArray, List.set_cons_zero, List.set_cons_succ])
              (refine Rr.wr_y (by simp only [List.getElem?_toArray, List.getElem?_cons_succ, List.getElem?_cons_zero]; rfl) (by rfl) ?_
               apply Exists.intro
               refine ⟨fun wz hw _ => ?_, ?_⟩
               · have hcz := hw.cells.1
                 go_simp
                 (with_reducible exact Rg.up_value)
               simp only [Act.put, List.setIfInBounds_toArray, List.set_cons_zero, List.set_cons_succ])
              (refine Rr.wr_y (by simp only [List.getElem?_toArray, List.getElem?_cons_succ, List.getElem?_cons_zero]; rfl) (by rfl) ?_
               apply Exists.intro
               refine ⟨fun wz hw _ => ?_, ?_⟩
               · have hcz := hw.cells.1
                 go_simp
                 (with_reducible exact Rg.up_value)
               simp only [Act.put, List.setIfInBounds_toArray, List.set_cons_zero, List.set_cons_succ])
              (refine Rr.wr_y (by simp only [List.getElem?_toArray, List.getElem?_cons_succ, List.getElem?_cons_zero]; rfl) (by rfl) ?_
               apply Exists.intro
               refine ⟨fun wz hw _ => ?_, ?_⟩
               · have hcz := hw.cells.1
                 go_simp
                 (with_reducible exact Rg.up_value)
               simp only [Act.put, List.setIfInBounds_toArray, List.set_cons_zero, List.set_cons_succ])
              (refine Rr.wr_y (by simp only [List.getElem?_toArray, List.getElem?_cons_succ, List.getElem?_cons_zero]; rfl) (by rfl) ?_
               apply Exists.intro
               refine ⟨fun wz hw _ => ?_, ?_⟩
               · have hcz := hw.cells.1
                 go_simp
                 (with_reducible exact Rg.up_value)
               simp only [Act.put, List.setIfInBounds_toArray, List.set_cons_zero, List.set_cons_succ])
              (refine Rr.wr_y (by simp only [List.getElem?_toArray, List.getElem?_cons_succ, List.getElem?_cons_zero]; rfl) (by rfl) ?_
               apply Exists.intro
               refine ⟨fun wz hw _ => ?_, ?_⟩
               · have hcz := hw.cells.1
                 exact up_load26 (by rfl) ((hcz _ _ l18).trans v2) ((hcz _ _ l18).trans v3)
               simp only [Act.put, List.setIfInBounds_toArray, List.set_cons_zero, List.set_cons_succ])
              (refine Rr.wr_y (by simp only [List.getElem?_toArray, List.getElem?_cons_succ, List.getElem?_cons_zero]; rfl) (by rfl) ?_
               apply Exists.intro
               refine ⟨fun wz hw _ => ?_, ?_⟩
               · have hcz := hw.cells.1
                 go_simp
                 apply Rg.up_enter
                 (with_reducible refine (refOf_any 0 _).mono ?_)
                 rintro e w3 ⟨rfl, hb3⟩
                 exact ⟨rfl, hb3⟩
               simp only [Act.put, List.setIfInBounds_toArray, List.set_cons_zero, List.set_cons_succ])
              (refine Rr.wr_y (by simp only [List.getElem?_toArray, List.getElem?_cons_succ, List.getElem?_cons_zero]; rfl) (by rfl) ?_
               apply Exists.intro
               refine ⟨fun wz hw _ => ?_, ?_⟩
               · have hcz := hw.cells.1
                 go_simp
                 (with_reducible exact Rg.up_value)
               simp only [Act.put, List.setIfInBounds_toArray, List.set_cons_zero, List.set_cons_succ])
              (refine Rr.wr_y (by simp only [List.getElem?_toArray, List.getElem?_cons_succ, List.getElem?_cons_zero]; rfl) (by rfl) ?_
               apply Exists.intro
               refine ⟨fun wz hw _ => ?_, ?_⟩
               · have hcz := hw.cells.1
                 go_simp
                 (with_reducible exact Rg.up_value)
               simp only [Act.put, List.setIfInBounds_toArray, List.set_cons_zero, List.set_cons_succ])
              (refine Rr.wr_y (by simp only [List.getElem?_toArray, List.getElem?_cons_succ, List.getElem?_cons_zero]; rfl) (by rfl) ?_
               apply Exists.intro
               refine ⟨fun wz hw _ => ?_, ?_⟩
               · have hcz := hw.cells.1
                 go_simp
                 (with_reducible exact Rg.up_value)
               simp only [Act.put, List.setIfInBounds_toArray, List.set_cons_zero, List.set_cons_succ])
              (refine Rr.wr_y (by simp only [List.getElem?_toArray, List.getElem?_cons_succ, List.getElem?_cons_zero]; rfl) (by rfl) ?_
               apply Exists.intro
               refine ⟨fun wz hw _ => ?_, ?_⟩
               · have hcz := hw.cells.1
                 go_simp
                 (with_reducible exact Rg.up_value)
               simp only [Act.put, List.setIfInBounds_toArray, List.set_cons_zero, List.set_cons_succ])
              (refine Rr.wr_y (by simp only [List.getElem?_toArray, List.getElem?_cons_succ, List.getElem?_cons_zero]; rfl) (by rfl) ?_
               apply Exists.intro
               refine ⟨fun wz hw _ => ?_, ?_⟩
               · have hcz := hw.cells.1
                 go_simp
                 (with_reducible exact Rg.up_value)
               simp only [Act.put, List.setIfInBounds_toArray, List.set_cons_zero, List.set_cons_succ])
              (refine Rr.wr_y (by simp only [List.getElem?_toArray, List.getElem?_cons_succ, List.getElem?_cons_zero]; rfl) (by rfl) ?_
               apply Exists.intro
               refine ⟨fun wz hw _ => ?_, ?_⟩
               · have hcz := hw.cells.1
                 go_simp
                 (with_reducible exact Rg.up_value)
               simp only [Act.put, List.setIfInBounds_toArray, List.set_cons_zero, List.set_cons_succ])
              (refine Rr.wr_y (by simp only [List.getElem?_toArray, List.getElem?_cons_succ, List.getElem?_cons_zero]; rfl) (by rfl) ?_
               apply Exists.intro
               refine ⟨fun wz hw _ => ?_, ?_⟩
               · have hcz := hw.cells.1
                 go_simp
                 (with_reducible exact Rg.up_value)
               simp only [Act.put, List.setIfInBounds_toArray, List.set_cons_zero, List.set_cons_succ])
              (refine Rr.wr_y (by simp only [List.getElem?_toArray, List.getElem?_cons_succ, List.getElem?_cons_zero]; rfl) (by rfl) ?_
               apply Exists.intro
               refine ⟨fun wz hw _ => ?_, ?_⟩
               · have hcz := hw.cells.1
                 go_simp
                 (with_reducible exact Rg.up_value)
               simp only [Act.put, List.setIfInBounds_toArray, List.set_cons_zero, List.set_cons_succ])
              (refine Rr.wr_y (by simp only [List.getElem?_toArray, List.getElem?_cons_succ, List.getElem?_cons_zero]; rfl) (by rfl) ?_
               apply Exists.intro
               refine ⟨fun wz hw _ => ?_, ?_⟩
               · have hcz := hw.cells.1
                 go_simp
                 (with_reducible exact Rg.up_value)
               simp only [Act.put, List.setIfInBounds_toArray, List.set_cons_zero, List.set_cons_succ])
              (refine Rr.wr_y (by simp only [List.getElem?_toArray, List.getElem?_cons_succ, List.getElem?_cons_zero]; rfl) (by rfl) ?_
               apply Exists.intro
               refine ⟨fun wz hw _ => ?_, ?_⟩
               · have hcz := hw.cells.1
                 go_simp
                 (with_reducible exact Rg.up_value)
               simp only [Act.put, List.setIfInBounds_toArray, List.set_cons_zero, List.set_cons_succ])
              (refine Rr.wr_y (by simp only [List.getElem?_toArray, List.getElem?_cons_succ, List.getElem?_cons_zero]; rfl) (by rfl) ?_
               apply Exists.intro
               refine ⟨fun wz hw _ => ?_, ?_⟩
               · have hcz := hw.cells.1
                 go_simp
                 (with_reducible exact Rg.up_value)
               simp only [Act.put, List.setIfInBounds_toArray, List.set_cons_zero, List.set_cons_succ])
              refine Rr.wr_skip (by simp only [List.getElem?_toArray, List.getElem?_cons_succ, List.getElem?_cons_zero]; rfl) (by rfl) ?_
              simp only [Act.put, List.setIfInBounds_toArray, List.set_cons_zero, List.set_cons_succ]
              refine Rr.wr_skip (by simp only [List.getElem?_toArray, List.getElem?_cons_succ, List.getElem?_cons_zero]; rfl) (by rfl) ?_
              simp only [Act.put, List.setIfInBounds_toArray, List.set_cons_zero, List.set_cons_succ]
              refine Rr.wr_skip (by simp only [List.getElem?_toArray, List.getElem?_cons_succ, List.getElem?_cons_zero]; rfl) (by rfl) ?_
              simp only [Act.put, List.setIfInBounds_toArray, List.set_cons_zero, List.set_cons_succ]
              (refine Rr.wr_y (by simp only [List.getElem?_toArray, List.getElem?_cons_succ, List.getElem?_cons_zero]; rfl) (by rfl) ?_
               apply Exists.intro
               refine ⟨fun wz hw _ => ?_, ?_⟩
               · have hcz := hw.cells.1
                 go_simp
                 (with_reducible exact Rg.up_value)
               simp only [Act.put, List.setIfInBounds_toArray, List.set_cons_zero, List.set_cons_succ])
              (refine Rr.wr_y (by simp only [List.getElem?_toArray, List.getElem?_cons_succ, List.getElem?_cons_zero]; rfl) (by rfl) ?_
               apply Exists.intro
               refine ⟨fun wz hw _ => ?_, ?_⟩
               · have hcz := hw.cells.1
                 go_simp
                 (with_reducible exact Rg.up_value)
               simp only [Act.put, List.setIfInBounds_toArray, List.set_cons_zero, List.set_cons_succ])
              refine Rr.wr_nil ?_
              intro wy hy hh
              simp only [List.length_cons, List.length_nil, List.drop_succ_cons, List.drop_zero, Nat.reduceAdd]
              clear hh
              go_wp2_with (fail)
              go_ret
              exact ⟨rfl, HX7.out.trans hy⟩
            · obtain ⟨rfl, rfl, rfl⟩ : r1 = u1 ∧ r2 = u2 ∧ rf = 0 := by
                have h := HRES.out
                rw [if_neg (fun h => hb0 h.2), if_pos rfl] at h
                injection h with h1 h2
                injection h1 with h3 h4
                exact ⟨h3, h4, h2⟩
              go_upto_region 21 with (fail)
              refine Rr.wp_region ((List.range 24).map (fun i => (i, .y))) (fun _ => (.cells #[] 29, Rg.ptr)) (by kernel_rfl) (by kernel_rfl) ?_
              simp only [List.range, List.range.loop, List.map_cons, List.map_nil]
              (refine Rr.wr_y (by simp only [List.getElem?_toArray, List.getElem?_cons_succ, List.getElem?_cons_zero]; rfl) (by rfl) ?_
               apply Exists.intro
               refine ⟨fun wz hw _ => ?_, ?_⟩
               · have hcz := hw.cells.1
                 go_simp
                 (with_reducible exact Rg.up_value)
               simp only [Act.put, List.setIfInBounds_toArray, List.set_cons_zero, List.set_cons_succ])
              (refine Rr.wr_y (by simp only [List.getElem?_toArray, List.getElem?_cons_succ, List.getElem?_cons_zero]; rfl) (by rfl) ?_
               apply Exists.intro
               refine ⟨fun wz hw _ => ?_, ?_⟩
               · have hcz := hw.cells.1
                 go_simp
                 (with_reducible exact Rg.up_value)
               simp only [Act.put, List.setIfInBounds_toArray, List.set_cons_zero, List.set_cons_succ])
              (refine Rr.wr_y (by simp only [List.getElem?_toArray, List.getElem?_cons_succ, List.getElem?_cons_zero]; rfl) (by rfl) ?_
               apply Exists.intro
               refine ⟨fun wz hw _ => ?_, ?_⟩
               · have hcz := hw.cells.1
                 go_simp
                 (with_reducible exact Rg.up_value)
               simp only [Act.put, List.setIfInBounds_toArray, List.set_cons_zero, List.set_cons_succ])
              (refine Rr.wr_y (by simp only [List.getElem?_toArray, List.getElem?_cons_succ, List.getElem?_cons_zero]; rfl) (by rfl) ?_
               apply Exists.intro
               refine ⟨fun wz hw _ => ?_, ?_⟩
               · have hcz := hw.cells.1
                 go_simp
                 (with_reducible exact Rg.up_value)
               simp only [Act.put, List.setIfInBounds_toArray, List.set_cons_zero, List.set_cons_succ])
              (refine Rr.wr_y (by simp only [List.getElem?_toArray, List.getElem?_cons_succ, List.getElem?_cons_zero]; rfl) (by rfl) ?_
               apply Exists.intro
               refine ⟨fun wz hw _ => ?_, ?_⟩
               · have hcz := hw.cells.1
                 go_simp
                 (with_reducible exact Rg.up_value)
               simp only [Act.put, List.setIfInBounds_toArray, List.set_cons_zero, List.set_cons_succ])
              (refine Rr.wr_y (by simp only [List.getElem?_toArray, List.getElem?_cons_succ, List.getElem?_cons_zero]; rfl) (by rfl) ?_
               apply Exists.intro
               refine ⟨fun wz hw _ => ?_, ?_⟩
               · have hcz := hw.cells.1
                 go_simp
                 (with_reducible exact Rg.up_value)
               simp only [Act.put, List.setIfInBounds_toArray, List.set_cons_zero, List.set_cons_succ])
              (refine Rr.wr_y (by simp only [List.getElem?_toArray, List.getElem?_cons_succ, List.getElem?_cons_zero]; rfl) (by rfl) ?_
               apply Exists.intro
               refine ⟨fun wz hw _ => ?_, ?_⟩
               · have hcz := hw.cells.1
                 exact up_load26 (by rfl) ((hcz _ _ l18).trans v2) ((hcz _ _ l18).trans v3)
               simp only [Act.put, List.setIfInBounds_toArray, List.set_cons_zero, List.set_cons_succ])
              (refine Rr.wr_y (by simp only [List.getElem?_toArray, List.getElem?_cons_succ, List.getElem?_cons_zero]; rfl) (by rfl) ?_
               apply Exists.intro
               refine ⟨fun wz hw _ => ?_, ?_⟩
               · have hcz := hw.cells.1
                 go_simp
                 apply Rg.up_enter
                 (with_reducible refine (refOf_any 0 _).mono ?_)
                 rintro e w3 ⟨rfl, hb3⟩
                 exact ⟨rfl, hb3⟩
               simp only [Act.put, List.setIfInBounds_toArray, List.set_cons_zero, List.set_cons_succ])
              (refine Rr.wr_y (by simp only [List.getElem?_toArray, List.getElem?_cons_succ, List.getElem?_cons_zero]; rfl) (by rfl) ?_
               apply Exists.intro
               refine ⟨fun wz hw _ => ?_, ?_⟩
               · have hcz := hw.cells.1
                 go_simp
                 (with_reducible exact Rg.up_value)
               simp only [Act.put, List.setIfInBounds_toArray, List.set_cons_zero, List.set_cons_succ])
              (refine Rr.wr_y (by simp only [List.getElem?_toArray, List.getElem?_cons_succ, List.getElem?_cons_zero]; rfl) (by rfl) ?_
               apply Exists.intro
               refine ⟨fun wz hw _ => ?_, ?_⟩
               · have hcz := hw.cells.1
                 go_simp
                 (with_reducible exact Rg.up_value)
               simp only [Act.put, List.setIfInBounds_toArray, List.set_cons_zero, List.set_cons_succ])
              (refine Rr.wr_y (by simp only [List.getElem?_toArray, List.getElem?_cons_succ, List.getElem?_cons_zero]; rfl) (by rfl) ?_
               apply Exists.intro
               refine ⟨fun wz hw _ => ?_, ?_⟩
               · have hcz := hw.cells.1
                 go_simp
                 (with_reducible exact Rg.up_value)
               simp only [Act.put, List.setIfInBounds_toArray, List.set_cons_zero, List.set_cons_succ])
              (refine Rr.wr_y (by simp only [List.getElem?_toArray, List.getElem?_cons_succ, List.getElem?_cons_zero]; rfl) (by rfl) ?_
               apply Exists.intro
               refine ⟨fun wz hw _ => ?_, ?_⟩
               · have hcz := hw.cells.1
                 go_simp
                 (with_reducible exact Rg.up_value)
               simp only [Act.put, List.setIfInBounds_toArray, List.set_cons_zero, List.set_cons_succ])
              (refine Rr.wr_y (by simp only [List.getElem?_toArray, List.getElem?_cons_succ, List.getElem?_cons_zero]; rfl) (by rfl) ?_
               apply Exists.intro
               refine ⟨fun wz hw _ => ?_, ?_⟩
               · have hcz := hw.cells.1
                 go_simp
                 (with_reducible exact Rg.up_value)
               simp only [Act.put, List.setIfInBounds_toArray, List.set_cons_zero, List.set_cons_succ])
              (refine Rr.wr_y (by simp only [List.getElem?_toArray, List.getElem?_cons_succ, List.getElem?_cons_zero]; rfl) (by rfl) ?_
               apply Exists.intro
               refine ⟨fun wz hw _ => ?_, ?_⟩
               · have hcz := hw.cells.1
                 go_simp
                 (with_reducible exact Rg.up_value)
               simp only [Act.put, List.setIfInBounds_toArray, List.set_cons_zero, List.set_cons_succ])
              (refine Rr.wr_y (by simp only [List.getElem?_toArray, List.getElem?_cons_succ, List.getElem?_cons_zero]; rfl) (by rfl) ?_
               apply Exists.intro
               refine ⟨fun wz hw _ => ?_, ?_⟩
               · have hcz := hw.cells.1
                 go_simp
                 (with_reducible exact Rg.up_value)
               simp only [Act.put, List.setIfInBounds_toArray, List.set_cons_zero, List.set_cons_succ])
              (refine Rr.wr_y (by simp only [List.getElem?_toArray, List.getElem?_cons_succ, List.getElem?_cons_zero]; rfl) (by rfl) ?_
               apply Exists.intro
               refine ⟨fun wz hw _ => ?_, ?_⟩
               · have hcz := hw.cells.1
                 go_simp
                 (with_reducible exact Rg.up_value)
               simp only [Act.put, List.setIfInBounds_toArray, List.set_cons_zero, List.set_cons_succ])
              (refine Rr.wr_y (by simp only [List.getElem?_toArray, List.getElem?_cons_succ, List.getElem?_cons_zero]; rfl) (by rfl) ?_
               apply Exists.intro
               refine ⟨fun wz hw _ => ?_, ?_⟩
               · have hcz := hw.cells.1
                 go_simp
                 (with_reducible exact Rg.up_value)
               simp only [Act.put, List.setIfInBounds_toArray, List.set_cons_zero, List.set_cons_succ])
              (refine Rr.wr_y (by simp only [List.getElem?_toArray, List.getElem?_cons_succ, List.getElem?_cons_zero]; rfl) (by rfl) ?_
               apply Exists.intro
               refine ⟨fun wz hw _ => ?_, ?_⟩
               · have hcz := hw.cells.1
                 go_simp
                 (with_reducible exact Rg.up_value)
               simp only [Act.put, List.setIfInBounds_toArray, List.set_cons_zero, List.set_cons_succ])
              (refine Rr.wr_y (by simp only [List.getElem?_toArray, List.getElem?_cons_succ, List.getElem?_cons_zero]; rfl) (by rfl) ?_
               apply Exists.intro
               refine ⟨fun wz hw _ => ?_, ?_⟩
               · have hcz := hw.cells.1
                 go_simp
                 (with_reducible exact Rg.up_value)
               simp only [Act.put, List.setIfInBounds_toArray, List.set_cons_zero, List.set_cons_succ])
              (refine Rr.wr_y (by simp only [List.getElem?_toArray, List.getElem?_cons_succ, List.getElem?_cons_zero]; rfl) (by rfl) ?_
               apply Exists.intro
               refine ⟨fun wz hw _ => ?_, ?_⟩
               · have hcz := hw.cells.1
                 exact up_load26 (by rfl) ((hcz _ _ l21).trans v4) ((hcz _ _ l21).trans v5)
               simp only [Act.put, List.setIfInBounds_toArray, List.set_cons_zero, List.set_cons_succ])
              (refine Rr.wr_y (by simp only [List.getElem?_toArray, List.getElem?_cons_succ, List.getElem?_cons_zero]; rfl) (by rfl) ?_
               apply Exists.intro
               refine ⟨fun wz hw _ => ?_, ?_⟩
               · have hcz := hw.cells.1
                 exact up_load26 (by rfl) ((hcz _ _ l23).trans v6) ((hcz _ _ l23).trans v7)
               simp only [Act.put, List.setIfInBounds_toArray, List.set_cons_zero, List.set_cons_succ])
              (refine Rr.wr_y (by simp only [List.getElem?_toArray, List.getElem?_cons_succ, List.getElem?_cons_zero]; rfl) (by rfl) ?_
               apply Exists.intro
               refine ⟨fun wz hw _ => ?_, ?_⟩
               · have hcz := hw.cells.1
                 go_simp
                 (with_reducible exact Rg.up_value)
               simp only [Act.put, List.setIfInBounds_toArray, List.set_cons_zero, List.set_cons_succ])
              (refine Rr.wr_y (by simp only [List.getElem?_toArray, List.getElem?_cons_succ, List.getElem?_cons_zero]; rfl) (by rfl) ?_
               apply Exists.intro
               refine ⟨fun wz hw _ => ?_, ?_⟩
               · have hcz := hw.cells.1
                 go_simp
                 (with_reducible exact Rg.up_value)
               simp only [Act.put, List.setIfInBounds_toArray, List.set_cons_zero, List.set_cons_succ])
              (refine Rr.wr_y (by simp only [List.getElem?_toArray, List.getElem?_cons_succ, List.getElem?_cons_zero]; rfl) (by rfl) ?_
               apply Exists.intro
               refine ⟨fun wz hw _ => ?_, ?_⟩
               · have hcz := hw.cells.1
                 go_simp
                 (with_reducible exact Rg.up_value)
               simp only [Act.put, List.setIfInBounds_toArray, List.set_cons_zero, List.set_cons_succ])
              refine Rr.wr_nil ?_
              intro wy hy hh
              simp only [List.length_cons, List.length_nil, List.drop_succ_cons, List.drop_zero, Nat.reduceAdd]
              clear hh
              go_wp2_with (fail)
              go_ret
              exact ⟨rfl, HX7.out.trans hy⟩
end Go.Proofs.Ytgkdeknfmmgbdaa
