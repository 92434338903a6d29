/-
  Joined: the lemmas of this claim that other texts of it use, part 2. Nothing is asked.
-/
import Derived.Test.YtgkdeknfmmgbdaaJnA
import Derived.Laws.EntriesVeiled
namespace Go.Proofs.Ytgkdeknfmmgbdaa
set_option linter.unusedVariables false
set_option linter.unusedSimpArgs false
open Go.RowKit

theorem same97 (s nm : ByteArray) (g : Value) (q : Nat) (w : World) (h : w.cell? ⟨q, 0, none⟩ = some (.string nm)) :
    Calls Try.prog 97 #[.agg #[.string s, g], .pointer (some ⟨q, 0, none⟩)] w fun e w' => e = .returned (.bool (s.toList == nm.toList)) ∧ Ext w w' := by
  have hpl : q < w.heap.size := World.block_lt_of_cell? w _ h
  go_enter Try.func97, Try.ntmps97
  go_wp2
  go_ret
  exact ⟨rfl, (by with_reducible repeat (first | exact Ext.refl _ | assumption | apply Ext.drewN | apply Ext.drew | apply Ext.alloc | (refine Ext.setCell ?_ (by simp <;> omega) _) | (refine Ext.trans ?_ (by assumption))))⟩

def opNm : Nat → ByteArray
  | 0 => ⟨#[43]⟩ | 1 => ⟨#[45]⟩ | 2 => ⟨#[42]⟩ | 3 => ⟨#[47]⟩ | 4 => ⟨#[109, 105, 110]⟩ | _ => ⟨#[109, 97, 120]⟩
def opFn : Nat → FuncId
  | 0 => 88 | 1 => 89 | 2 => 90 | 3 => 91 | 4 => 92 | _ => 95
def opE (k j : Nat) : Value := if j = 0 then .string (opNm k) else .func (.func (opFn k)) #[] #[]
/-- Which operation a name is: 0 to 5, or -1. -/
def opIx (nm : ByteArray) : Int := idxZ (fun k => (opNm k).toList == nm.toList) 6

theorem idxFrom_bd (p : Nat → Bool) (n : Nat) : ∀ f, f ≤ n → -1 ≤ idxFrom p n f ∧ idxFrom p n f < n
  | 0, _ => ⟨by simp [idxFrom], by simp [idxFrom]; omega⟩
  | f + 1, h => by
    have ih := idxFrom_bd p n f (by omega)
    unfold idxFrom
    split
    · omega
    · exact ih
theorem opIx_bd (nm : ByteArray) : -1 ≤ opIx nm ∧ opIx nm < 6 := by
  have h := idxFrom_bd (fun k => (opNm k).toList == nm.toList) 6 6 (Nat.le_refl _)
  unfold opIx idxZ; omega

theorem enters97 (args : Array Value) (w : World) : (callFunc 97 args).run Try.prog w = .ok (.enter 97 args) w := by go_simp

def findV (i : Int) : Value := if i = -1 then .tuple #[.agg #[.string ⟨#[]⟩, .nilFunc], .bool false] else .tuple #[.agg #[.string (opNm i.toNat), .func (.func (opFn i.toNat)) #[] #[]], .bool true]

def opCells : Array Value := #[.string ⟨#[43]⟩, .func (.func 88) #[] #[], .string ⟨#[45]⟩, .func (.func 89) #[] #[], .string ⟨#[42]⟩, .func (.func 90) #[] #[], .string ⟨#[47]⟩, .func (.func 91) #[] #[], .string ⟨#[109, 105, 110]⟩, .func (.func 92) #[] #[], .string ⟨#[109, 97, 120]⟩, .func (.func 95) #[] #[]]
theorem opCells_at (k j : Nat) (hk : k < 6) (hj : j < 2) : opCells[0 + k * 2 + j]? = some (opE k j) := by
  have h : k = 0 ∨ k = 1 ∨ k = 2 ∨ k = 3 ∨ k = 4 ∨ k = 5 := by omega
  have h2 : j = 0 ∨ j = 1 := by omega
  rcases h with rfl | rfl | rfl | rfl | rfl | rfl <;> rcases h2 with rfl | rfl <;> rfl

theorem find_index (nm : ByteArray) (w : World) (b q : Nat) (hb : ∀ j, w.cell? ⟨b, j, none⟩ = opCells[j]?) (hq : w.cell? ⟨q, 0, none⟩ = some (.string nm)) :
    Calls Try.prog 96 #[.slice (some ⟨b, 0, none⟩) 6 6, .func (.func 97) #[] #[.pointer (some ⟨q, 0, none⟩)]] w fun e w' => e = .returned (.int .i64 (opIx nm)) ∧ Ext w w' := by
  have hql : q < w.heap.size := World.block_lt_of_cell? w _ hq
  refine index96 b 0 6 6 (by decide) 97 _ opE (fun k => (opNm k).toList == nm.toList) w (fun k hk => (hb _).trans (opCells_at k 0 hk (by decide))) (fun k hk => (hb _).trans (opCells_at k 1 hk (by decide))) ?_ enters97
  intro k w' hk hx
  exact same97 (opNm k) nm _ q w' ((hx.cells.1 q 0 hql).trans hq)

set_option maxRecDepth 100000 in
set_option maxHeartbeats 2000000 in
theorem find_walk (nm : ByteArray) (i : Int) (hi : opIx nm = i) (h : i = -1 ∨ i = 0 ∨ i = 1 ∨ i = 2 ∨ i = 3 ∨ i = 4 ∨ i = 5) (w : World) :
    Calls Try.prog 73 #[.string nm] w fun e w' => e = .returned (findV i) ∧ Ext w w' := by
  have Hi := Lib.hid hi; clear hi
  have hmf : ∀ (fn : Fn) (first cap : Array Value) (w : World), (Instr.makeFunc fn first cap).run Try.prog w = .ok (.func fn first cap) w := fun _ _ _ _ => rfl
  have HF := Lib.hid (fun w => find_index nm w)
  have z0 : ∀ j : Nat, #[Value.string nm][j]? = #[Value.string nm][j]? := fun _ => rfl
  clear z0
  rcases h with rfl | rfl | rfl | rfl | rfl | rfl | rfl
  · go_enter Try.func73, Try.ntmps73
    go_wp2_with (go_at_call 96; (with_reducible refine (HF.out _ _ _ ?_ ?_).mono ?_); (intro j; simp [go_sem, opCells]); (simp [go_sem]); rintro e w1 ⟨rfl, hb⟩; rw [Hi.out]; obtain ⟨hc, hf⟩ := hb.cells)
    exact bodyPost_ret (v := findV (-1)) (by simp [results, Try.results73, go_sem, hc, findV]) rfl ⟨rfl, (by with_reducible repeat (first | exact Ext.refl _ | assumption | apply Ext.drewN | apply Ext.drew | apply Ext.alloc | (refine Ext.setCell ?_ (by simp <;> omega) _) | (refine Ext.trans ?_ (by assumption))))⟩
  · go_enter Try.func73, Try.ntmps73
    go_wp2_with (go_at_call 96; (with_reducible refine (HF.out _ _ _ ?_ ?_).mono ?_); (intro j; simp [go_sem, opCells]); (simp [go_sem]); rintro e w1 ⟨rfl, hb⟩; rw [Hi.out]; obtain ⟨hc, hf⟩ := hb.cells)
    exact bodyPost_ret (v := findV (0)) (by simp [results, Try.results73, go_sem, hc, findV, opNm, opFn]) rfl ⟨rfl, (by with_reducible repeat (first | exact Ext.refl _ | assumption | apply Ext.drewN | apply Ext.drew | apply Ext.alloc | (refine Ext.setCell ?_ (by simp <;> omega) _) | (refine Ext.trans ?_ (by assumption))))⟩
  · go_enter Try.func73, Try.ntmps73
    go_wp2_with (go_at_call 96; (with_reducible refine (HF.out _ _ _ ?_ ?_).mono ?_); (intro j; simp [go_sem, opCells]); (simp [go_sem]); rintro e w1 ⟨rfl, hb⟩; rw [Hi.out]; obtain ⟨hc, hf⟩ := hb.cells)
    exact bodyPost_ret (v := findV (1)) (by simp [results, Try.results73, go_sem, hc, findV, opNm, opFn]) rfl ⟨rfl, (by with_reducible repeat (first | exact Ext.refl _ | assumption | apply Ext.drewN | apply Ext.drew | apply Ext.alloc | (refine Ext.setCell ?_ (by simp <;> omega) _) | (refine Ext.trans ?_ (by assumption))))⟩
  · go_enter Try.func73, Try.ntmps73
    go_wp2_with (go_at_call 96; (with_reducible refine (HF.out _ _ _ ?_ ?_).mono ?_); (intro j; simp [go_sem, opCells]); (simp [go_sem]); rintro e w1 ⟨rfl, hb⟩; rw [Hi.out]; obtain ⟨hc, hf⟩ := hb.cells)
    exact bodyPost_ret (v := findV (2)) (by simp [results, Try.results73, go_sem, hc, findV, opNm, opFn]) rfl ⟨rfl, (by with_reducible repeat (first | exact Ext.refl _ | assumption | apply Ext.drewN | apply Ext.drew | apply Ext.alloc | (refine Ext.setCell ?_ (by simp <;> omega) _) | (refine Ext.trans ?_ (by assumption))))⟩
  · go_enter Try.func73, Try.ntmps73
    go_wp2_with (go_at_call 96; (with_reducible refine (HF.out _ _ _ ?_ ?_).mono ?_); (intro j; simp [go_sem, opCells]); (simp [go_sem]); rintro e w1 ⟨rfl, hb⟩; rw [Hi.out]; obtain ⟨hc, hf⟩ := hb.cells)
    exact bodyPost_ret (v := findV (3)) (by simp [results, Try.results73, go_sem, hc, findV, opNm, opFn]) rfl ⟨rfl, (by with_reducible repeat (first | exact Ext.refl _ | assumption | apply Ext.drewN | apply Ext.drew | apply Ext.alloc | (refine Ext.setCell ?_ (by simp <;> omega) _) | (refine Ext.trans ?_ (by assumption))))⟩
  · go_enter Try.func73, Try.ntmps73
    go_wp2_with (go_at_call 96; (with_reducible refine (HF.out _ _ _ ?_ ?_).mono ?_); (intro j; simp [go_sem, opCells]); (simp [go_sem]); rintro e w1 ⟨rfl, hb⟩; rw [Hi.out]; obtain ⟨hc, hf⟩ := hb.cells)
    exact bodyPost_ret (v := findV (4)) (by simp [results, Try.results73, go_sem, hc, findV, opNm, opFn]) rfl ⟨rfl, (by with_reducible repeat (first | exact Ext.refl _ | assumption | apply Ext.drewN | apply Ext.drew | apply Ext.alloc | (refine Ext.setCell ?_ (by simp <;> omega) _) | (refine Ext.trans ?_ (by assumption))))⟩
  · go_enter Try.func73, Try.ntmps73
    go_wp2_with (go_at_call 96; (with_reducible refine (HF.out _ _ _ ?_ ?_).mono ?_); (intro j; simp [go_sem, opCells]); (simp [go_sem]); rintro e w1 ⟨rfl, hb⟩; rw [Hi.out]; obtain ⟨hc, hf⟩ := hb.cells)
    exact bodyPost_ret (v := findV (5)) (by simp [results, Try.results73, go_sem, hc, findV, opNm, opFn]) rfl ⟨rfl, (by with_reducible repeat (first | exact Ext.refl _ | assumption | apply Ext.drewN | apply Ext.drew | apply Ext.alloc | (refine Ext.setCell ?_ (by simp <;> omega) _) | (refine Ext.trans ?_ (by assumption))))⟩

theorem find_any (nm : ByteArray) (w : World) : Calls Try.prog 73 #[.string nm] w fun e w' => e = .returned (findV (opIx nm)) ∧ Ext w w' :=
  find_walk nm _ rfl (by have := opIx_bd nm; omega) w

end Go.Proofs.Ytgkdeknfmmgbdaa

namespace Go.Proofs.Ytgkdeknfmmgbdaa.Rr
set_option linter.unusedVariables false
set_option linter.unusedSimpArgs false
open Go.RowKit Go.Proofs.Ytgkdeknfmmgbdaa Go.Proofs.Ytgkdeknfmmgbdaa.Rg

inductive Kd | y | z | m
deriving DecidableEq

/-- What a call may panic with. -/
abbrev Pnc := List PanicEntry → World → Prop

section
variable {P : Program} {ops : Array Oper} {md : Region.Mode} {w0 : World} {kd : Nat → Kd} {M : Nat → Obj × (Nat → Value)} {n : Nat} {Pn : Pnc} {E : List Nat}

abbrev Fs := List (World → Prop)
def Holds (fs : Fs) (w : World) : Prop := ∀ f ∈ fs, f w
/-- What holds of a world holds of every world grown out of it. -/
def Keeps (f : World → Prop) : Prop := ∀ w w', f w → Ext w w' → f w'
def Blk (w0 : World) (p : Nat) (ob : Obj) : World → Prop := fun w => w0.heap.size ≤ p ∧ w.heap[p]? = some ob
theorem Blk.keeps {p : Nat} {ob : Obj} : Keeps (Blk w0 p ob) := fun _ _ h e => ⟨h.1, (e.block _ (lt_of_heap h.2)).trans h.2⟩
abbrev Le (fs fs' : Fs) : Prop := ∀ f ∈ fs, f ∈ fs'
theorem Holds.le {fs fs' : Fs} {w : World} (h : Holds fs' w) (l : Le fs fs') : Holds fs w := fun f hf => h f (l f hf)

/-- One value, in every grown world in which the facts hold. -/
def Y (P : Program) (ops : Array Oper) (w0 : World) (fs : Fs) (o : Oper) (v : Value) (a : Act) : Prop :=
  (Region.wanted o (yielded ops a.tmps) = true ∧ ∀ w, Ext w0 w → Holds fs w → up P w v ((execOp a.eval o).run P w)) ∨ (Region.wanted o (yielded ops a.tmps) = false ∧ v = undef)
theorem Y.of_same {fs : Fs} {o : Oper} {v : Value} {a a' : Act} (hy : Y P ops w0 fs o v a) (he : execOp a'.eval o = execOp a.eval o)
    (hw : Region.wanted o (yielded ops a'.tmps) = Region.wanted o (yielded ops a.tmps)) : Y P ops w0 fs o v a' := by
  unfold Y at *
  rw [he, hw]
  exact hy
theorem Y.more {fs fs' : Fs} {o : Oper} {v : Value} {a : Act} (hy : Y P ops w0 fs o v a) (l : Le fs fs') : Y P ops w0 fs' o v a :=
  hy.imp (fun ⟨h1, h2⟩ => ⟨h1, fun w e hf => h2 w e (hf.le l)⟩) id

def upR (P : Program) (Pn : Pnc) (w : World) (R : Value → World → Prop) : Result Next → Prop
  | .ok (.value v) w' => Ext w w' ∧ R v w'
  | .ok (.enter f args) w' => w' = w ∧ Calls P f args w (fun e w'' => Ext w w'' ∧ ((∃ v, e = .returned v ∧ R v w'') ∨ ∃ c, e = .panicked c ∧ Pn c w''))
  | _ => False
theorem upR_value {w w' : World} {R : Value → World → Prop} {v : Value} (h : Ext w w') (r : R v w') : upR P Pn w R (.ok (.value v) w') := ⟨h, r⟩
theorem upR_enter {w : World} {R : Value → World → Prop} {f : FuncId} {args : Array Value} (h : Calls P f args w (fun e w'' => ∃ v, e = .returned v ∧ Ext w w'' ∧ R v w'')) : upR P Pn w R (.ok (.enter f args) w) := ⟨rfl, h.mono fun _ _ ⟨v, he, hx, hr⟩ => ⟨hx, .inl ⟨v, he, hr⟩⟩⟩
theorem upR_panic {w : World} {R : Value → World → Prop} {f : FuncId} {args : Array Value} (h : Calls P f args w (fun e w'' => ∃ c, e = .panicked c ∧ Ext w w'' ∧ Pn c w'')) : upR P Pn w R (.ok (.enter f args) w) := ⟨rfl, h.mono fun _ _ ⟨v, he, hx, hr⟩ => ⟨hx, .inr ⟨v, he, hr⟩⟩⟩

/-- An operation whose result is known by a relation. -/
def Z (P : Program) (Pn : Pnc) (ops : Array Oper) (w0 : World) (fs : Fs) (o : Oper) (R : Value → World → Prop) (a : Act) : Prop :=
  Region.wanted o (yielded ops a.tmps) = true ∧ (∀ v, Keeps (R v)) ∧ ∀ w, Ext w0 w → Holds fs w → upR P Pn w R ((execOp a.eval o).run P w)
theorem Z.of_same {fs : Fs} {o : Oper} {R : Value → World → Prop} {a a' : Act} (hy : Z P Pn ops w0 fs o R a) (he : execOp a'.eval o = execOp a.eval o)
    (hw : Region.wanted o (yielded ops a'.tmps) = Region.wanted o (yielded ops a.tmps)) : Z P Pn ops w0 fs o R a' := by
  unfold Z at *
  rw [he, hw]
  exact hy
theorem Z.more {fs fs' : Fs} {o : Oper} {R : Value → World → Prop} {a : Act} (hy : Z P Pn ops w0 fs o R a) (l : Le fs fs') : Z P Pn ops w0 fs' o R a :=
  ⟨hy.1, hy.2.1, fun w e hf => hy.2.2 w e (hf.le l)⟩

/-- It makes a block, and its value is known by the block's place. -/
def Mk (P : Program) (ops : Array Oper) (o : Oper) (m : Obj × (Nat → Value)) (a : Act) : Prop :=
  Region.wanted o (yielded ops a.tmps) = true ∧ ∀ w, (execOp a.eval o).run P w = .ok (.value (m.2 w.heap.size)) (w.alloc m.1)
theorem Mk.of_same {o : Oper} {m : Obj × (Nat → Value)} {a a' : Act} (hy : Mk P ops o m a) (he : execOp a'.eval o = execOp a.eval o)
    (hw : Region.wanted o (yielded ops a'.tmps) = Region.wanted o (yielded ops a.tmps)) : Mk P ops o m a' := by
  unfold Mk at *
  rw [he, hw]
  exact hy

/-- K: what goes on. -/
def stp (P : Program) (Pn : Pnc) (ops : Array Oper) (w0 : World) (kd : Nat → Kd) (M : Nat → Obj × (Nat → Value)) (i : Nat) (K : Act → List Nat → Fs → Prop) (a : Act) (bs : List Nat) (fs : Fs) : Prop :=
  match ops[i]? with
  | none => False
  | some o => match kd i with
    | .m => Mk P ops o (M i) a ∧ ∀ p, p ∉ bs → K (a.put o.dst ((M i).2 p)) (p :: bs) (Blk w0 p (M i).1 :: fs)
    | .z => ∃ R, Z P Pn ops w0 fs o R a ∧ ∀ v, K (a.put o.dst v) bs (R v :: fs)
    | .y => ∃ v, Y P ops w0 fs o v a ∧ K (a.put o.dst v) bs fs

/-- What may come next, where the first operation of the tail is made to wait for those of E besides. -/
def rdy (md : Region.Mode) (ops : Array Oper) (n : Nat) (E : List Nat) (listed : Array Bool) : List Nat := (Region.ready md ops listed).filter fun j => j != n || E.all fun i => listed.getD i false
theorem mem_rdy {j : Nat} {listed : Array Bool} : j ∈ rdy md ops n E listed ↔ j ∈ Region.ready md ops listed ∧ (j = n → ∀ i ∈ E, listed.getD i false = true) := by
  unfold rdy
  rw [List.mem_filter]
  refine and_congr_right fun _ => ?_
  by_cases h : j = n
  · simp [h]
  · simp [h]
theorem rdy_mono {i j : Nat} {listed : Array Bool} (hj : j ∈ rdy md ops n E listed) (hne : j ≠ i) : j ∈ rdy md ops n E (listed.setIfInBounds i true) := by
  rw [mem_rdy] at hj ⊢
  exact ⟨ready_mono hj.1 hne, fun h k hk => getD_set_true (hj.2 h k hk)⟩

def sinkE (md : Region.Mode) (ops : Array Oper) (E : List Nat) (n : Nat) : Bool :=
  (List.range n).all fun i => E.contains i || (List.range (n + 1)).any fun j => decide (i < j) && Region.waitsFor md ops j i

theorem tailE {listed : Array Bool} (hs : sinkE md ops E n = true) (hc : Region.chainB md ops n = true) (hn : n < ops.size) (inv : HeadInv md ops n listed) :
    ∀ (d i : Nat), n - i = d → i < n → listed.getD i true = false → ∀ t, n ≤ t → t ∉ rdy md ops n E listed := by
  intro d
  induction d using Nat.strongRecOn with
  | _ d ih =>
    intro i hd hi hun t ht hr
    obtain ⟨hrr, hEr⟩ := mem_rdy.1 hr
    obtain ⟨_, ot, hot, hall⟩ := mem_ready.1 hrr
    have htlt : t < ops.size := (Array.getElem?_eq_some_iff.1 hot).1
    by_cases htn : t = n
    · subst htn
      have h1 := List.all_eq_true.1 hs i (List.mem_range.2 hi)
      rw [Bool.or_eq_true] at h1
      rcases h1 with h1 | h1
      · have := hEr rfl i (by simpa using h1)
        rw [getD_both hun] at this; cases this
      · obtain ⟨j, hj, hj2⟩ := List.any_eq_true.1 h1
        simp only [Bool.and_eq_true, decide_eq_true_eq] at hj2
        obtain ⟨oj, hoj, e, he, hb, hon⟩ := Region.waitsFor_spec hj2.2
        have hjle : j ≤ t := by have := List.mem_range.1 hj; omega
        by_cases hjt : j = t
        · subst hjt
          have : oj = ot := Option.some.inj (hoj.symm.trans hot)
          subst this
          have h2 := hall e he hb
          rw [hon, getD_both hun] at h2
          cases h2
        · cases hl : listed.getD j false with
          | true =>
            have h2 := inv.closed j oj hoj hl e he hb
            rw [hon, getD_both hun] at h2
            cases h2
          | false =>
            have hjs : j < listed.size := by rw [inv.size]; omega
            exact ih (t - j) (by omega) j rfl (by omega) (getD_in hjs hl) t (Nat.le_refl _) hr
    · have h1 := List.all_eq_true.1 hc t (List.mem_range.2 htlt)
      simp only [Bool.or_eq_true, decide_eq_true_eq] at h1
      rcases h1 with h1 | h1
      · omega
      · obtain ⟨o', ho', e, he, hb, hon⟩ := Region.waitsFor_spec h1
        have : o' = ot := Option.some.inj (ho'.symm.trans hot)
        subst this
        have h2 := hall e he hb
        rw [hon, getD_both (inv.tail (t - 1) (by omega) (by omega))] at h2
        cases h2

/-- Without a guard, of the frame alone. -/
def fieldB (P : Program) (s : TypeId) (f : Nat) : Bool := match P.underlying s with
  | some (.struct fs) => (match fs[f]? with | some fl => (match P.info? fl.type with | some i => i.size != 0 | none => false) | none => false)
  | _ => false
def pureB (P : Program) (o : Oper) : Bool := o.guard.isNone && match o.op with | .extract _ _ => true | .move _ => true | .fieldAddr s _ f => fieldB P s f | _ => false
theorem pure_run {o : Oper} (h : pureB P o = true) {ρ : Operand → Value} {w : World} {v : Value} (hu : up P w v ((execOp ρ o).run P w)) : ∀ w', (execOp ρ o).run P w' = .ok (.value v) w' := by
  intro w'
  obtain ⟨dst, op, ty, ps, af, gd⟩ := o
  unfold pureB at h
  rw [Bool.and_eq_true] at h
  obtain ⟨-, h⟩ := h
  cases op <;> simp only [Bool.false_eq_true] at h
  case fieldAddr s x f =>
    unfold fieldB at h
    generalize hx : ρ x = u at *
    split at h
    · rename_i fs hs
      split at h
      · rename_i fl hf
        split at h
        · rename_i i hi
          have hz : i.size ≠ 0 := by simpa using h
          cases u <;> simp [go_sem, up, hx, hs, hf, hi, hz, Instr.fieldAt, underlying, fieldPlace, sizeOf, typeInfo, Instr.sureAddr] at hu ⊢
          rename_i a
          cases a <;> simp [go_sem, hs, hf, hi, hz, Instr.fieldAt, underlying, fieldPlace, sizeOf, typeInfo, Instr.sureAddr] at hu ⊢
          exact hu
        · cases h
      · cases h
    · cases h
  case move x => simp [go_sem, up] at hu ⊢; exact hu
  case extract x k =>
    generalize hx : ρ x = u at *
    cases u <;> simp [go_sem, up, hx] at hu ⊢
    rename_i vs
    cases hk : vs[k]? with
    | none => simp [go_sem, up, hk] at hu
    | some y => simp [go_sem, up, hk] at hu ⊢; exact hu

/-- What is asked of E. -/
def eagerB (P : Program) (md : Region.Mode) (ops : Array Oper) (kd : Nat → Kd) (E : List Nat) (n : Nat) : Bool :=
  E.all fun i => decide (i < n) && decide (kd i = .y) && Region.free md ops ((List.range ops.size).map fun j => Region.waitsFor md ops n j).toArray i && match ops[i]? with
    | some o => pureB P o && o.after.all fun e => !Region.binds md e || Region.waitsFor md ops n e.on
    | none => false

def WX (P : Program) (Pn : Pnc) (E : List Nat) (md : Region.Mode) (ops : Array Oper) (w0 : World) (kd : Nat → Kd) (M : Nat → Obj × (Nat → Value)) (n : Nat) (T : Array Bool → Act → Fs → Prop) : Nat → Array Bool → Act → List Nat → Fs → Prop
  | 0, listed, a, _, fs => T listed a fs
  | f + 1, listed, a, bs, fs => rdy md ops n E listed ≠ [] ∧ ∀ i ∈ rdy md ops n E listed, i < n ∧ stp P Pn ops w0 kd M i (WX P Pn E md ops w0 kd M n T f (listed.setIfInBounds i true)) a bs fs

theorem le_cons {fs fs' : Fs} (l : Le fs fs') (f : World → Prop) : Le (f :: fs) (f :: fs') := fun g hg => by
  rcases List.mem_cons.1 hg with rfl | hg
  · exact List.mem_cons_self
  · exact List.mem_cons_of_mem _ (l g hg)
theorem le_swap {fs : Fs} (f g : World → Prop) : Le (f :: g :: fs) (g :: f :: fs) := fun x hx => by
  simp only [List.mem_cons] at hx ⊢
  rcases hx with h | h | h
  · exact .inr (.inl h)
  · exact .inl h
  · exact .inr (.inr h)

theorem WX.mono {T : Array Bool → Act → Fs → Prop} (hT : ∀ listed a fs fs', Le fs fs' → T listed a fs → T listed a fs') :
    ∀ (f : Nat) (listed : Array Bool) (a : Act) (bs bs' : List Nat) (fs fs' : Fs), (∀ b ∈ bs, b ∈ bs') → Le fs fs' → WX P Pn E md ops w0 kd M n T f listed a bs fs → WX P Pn E md ops w0 kd M n T f listed a bs' fs'
  | 0, _, _, _, _, _, _, _, l, h => hT _ _ _ _ l h
  | f + 1, listed, a, bs, bs', fs, fs', hb, l, h => by
    refine ⟨h.1, fun i hi => ⟨(h.2 i hi).1, ?_⟩⟩
    have h1 := (h.2 i hi).2
    unfold stp at h1 ⊢
    split at h1
    · exact h1.elim
    · split at h1
      · refine ⟨h1.1, fun p hp => WX.mono hT f _ _ _ _ _ _ (fun b hb' => ?_) (le_cons l _) (h1.2 p fun h => hp (hb _ h))⟩
        rcases List.mem_cons.1 hb' with rfl | hb'
        · exact List.mem_cons_self
        · exact List.mem_cons_of_mem _ (hb b hb')
      · obtain ⟨R, hz, hk⟩ := h1
        exact ⟨R, hz.more l, fun v => WX.mono hT f _ _ _ _ _ _ hb (le_cons l _) (hk v)⟩
      · obtain ⟨v, hy, hk⟩ := h1
        exact ⟨v, hy.more l, WX.mono hT f _ _ _ _ _ _ hb l hk⟩

theorem Y.wpOp {fs : Fs} {i : Nat} {o : Oper} {v : Value} {a : Act} {w : World} {K : Act → World → Prop} {Q : Exit → Act → World → Prop} (hi : ops[i]? = some o) (hy : Y P ops w0 fs o v a) (hw : Ext w0 w) (hf : Holds fs w)
    (h : ∀ w', Ext w w' → K (a.put o.dst v) w') : wpOp P ops Q i K a w := by
  unfold Go.wpOp
  simp only [hi]
  rcases hy with ⟨hwt, hu⟩ | ⟨hwt, rfl⟩
  · simp only [hwt, if_true]
    refine .inl ?_
    have := hu w hw hf
    unfold Oper.wp
    generalize (execOp a.eval o).run P w = r at *
    cases r with
    | ok x w' =>
      cases x <;> simp only [up] at this <;> simp only [Oper.upon]
      case value u => obtain ⟨rfl, rfl⟩ := this; exact h _ (Ext.refl _)
      case skip => obtain ⟨rfl, rfl⟩ := this; exact h _ (Ext.refl _)
      case enter f args =>
        obtain ⟨rfl, hc⟩ := this
        exact hc.mono fun e w'' ⟨he, hb⟩ => by subst he; exact h _ hb
    | halt x w' => simp only [up] at this
  · simp only [hwt, Bool.false_eq_true, if_false]
    exact h _ (Ext.refl _)

theorem Z.wpOp {fs : Fs} {i : Nat} {o : Oper} {R : Value → World → Prop} {a : Act} {w : World} {K : Act → World → Prop} {Q : Exit → Act → World → Prop} (hi : ops[i]? = some o) (hy : Z P Pn ops w0 fs o R a) (hw : Ext w0 w) (hf : Holds fs w)
    (hQ : ∀ c w', Ext w0 w' → Pn c w' → Q (.panic c) a w')
    (h : ∀ v w', Ext w w' → R v w' → K (a.put o.dst v) w') : wpOp P ops Q i K a w := by
  unfold Go.wpOp
  obtain ⟨hwt, _, hu⟩ := hy
  simp only [hi, hwt, if_true]
  refine .inl ?_
  have := hu w hw hf
  unfold Oper.wp
  generalize (execOp a.eval o).run P w = r at *
  cases r with
  | ok x w' =>
    cases x <;> simp only [upR] at this
    case value v =>
      simp only [Oper.upon]
      exact h _ _ this.1 this.2
    case enter f args =>
      simp only [Oper.upon]
      obtain ⟨rfl, hc⟩ := this
      refine hc.mono fun e w'' ⟨hb, hr⟩ => ?_
      rcases hr with ⟨v, he, hr⟩ | ⟨c, he, hr⟩
      · subst he; exact h _ _ hb hr
      · subst he; exact hQ _ _ (hw.trans hb) hr
  | halt x w' => simp only [upR] at this

theorem Holds.cons {f : World → Prop} {fs : Fs} {w : World} (h : f w) (hs : Holds fs w) : Holds (f :: fs) w := fun g hg => by
  rcases List.mem_cons.1 hg with rfl | hg
  · exact h
  · exact hs g hg

theorem put_defers (a : Act) (d : Option Tmp) (v : Value) : (a.put d v).defers = a.defers := by cases d <;> rfl

theorem WX.sound {T : Array Bool → Act → Fs → Prop} {Q : Exit → Act → World → Prop} {g : Nat} {ds : List Deferred}
    (hT : ∀ listed a fs w, T listed a fs → Ext w0 w → Holds fs w → wpAny P md ops Q g listed a w) (hQ : ∀ c a w', a.defers = ds → Ext w0 w' → Pn c w' → Q (.panic c) a w')
    (hsel : ∀ (j : Nat) (o : Oper) cs b, ops[j]? = some o → o.op ≠ .select cs b) (hEB : eagerB P md ops kd E n = true) (hQp : E ≠ [] → ∀ c a d v w, Q (.panic c) (a.put d v) w → Q (.panic c) a w) :
    ∀ (f : Nat) (listed : Array Bool) (a : Act) (bs : List Nat) (fs : Fs) (w : World), a.defers = ds → HeadInv md ops n listed → WX P Pn E md ops w0 kd M n T f listed a bs fs → Ext w0 w → (∀ b ∈ bs, b < w.heap.size) → Holds fs w → (∀ x ∈ fs, Keeps x) → wpAny P md ops Q (f + g) listed a w
  | 0, listed, a, bs, fs, w, _, _, h, e, _, hH, _ => by rw [Nat.zero_add]; exact hT _ _ _ _ h e hH
  | f + 1, listed, a, bs, fs, w, hd, inv, h, e, hB, hH, hK => by
    rw [show f + 1 + g = (f + g) + 1 by omega]
    have ext : ∀ w', Ext w w' → Holds fs w' := fun w' hw' x hx => hK x hx w w' (hH x hx) hw'
    have blw : ∀ w', Ext w w' → ∀ b ∈ bs, b < w'.heap.size := fun w' hw' b hb => Nat.lt_of_lt_of_le (hB b hb) hw'.size
    by_cases hE : ∃ i ∈ E, n ∈ Region.ready md ops listed ∧ listed.getD i false = false
    · obtain ⟨i, hiE, hnr, hun⟩ := hE
      have hb := List.all_eq_true.1 hEB i hiE
      simp only [Bool.and_eq_true, decide_eq_true_eq] at hb
      obtain ⟨⟨⟨hin, hky⟩, hfree⟩, hb⟩ := hb
      split at hb
      · rename_i o ho
        rw [Bool.and_eq_true] at hb
        obtain ⟨hpu, haf⟩ := hb
        obtain ⟨_, on, hon, hall⟩ := mem_ready.1 hnr
        have his : i < listed.size := by rw [inv.size]; exact (Array.getElem?_eq_some_iff.1 ho).1
        have hir : i ∈ Region.ready md ops listed := mem_ready.2 ⟨getD_in his hun, o, ho, fun e he hbi => by
          have h1 := Array.all_eq_true_iff_forall_mem.1 haf e he
          rw [hbi, Bool.not_true, Bool.false_or] at h1
          obtain ⟨on', hon', e', he', hb', hee⟩ := Region.waitsFor_spec h1
          have : on' = on := Option.some.inj (hon'.symm.trans hon)
          subst this
          rw [← hee]
          exact hall e' he' hb'⟩
        have hi : i ∈ rdy md ops n E listed := mem_rdy.2 ⟨hir, fun h => absurd h (by omega)⟩
        have hi0 := hir
        have hs := (h.2 i hi).2
        unfold stp at hs
        simp only [ho, hky] at hs
        obtain ⟨v, hy, hk⟩ := hs
        have hyi : Yields P ops o v a := hy.imp (fun ⟨h1, h2⟩ => ⟨h1, pure_run hpu (h2 w e hH)⟩) id
        refine wpAny_first ho hsel (fun c a w => hQp (fun h => by rw [h] at hiE; cases hiE) c a _ _ w) (f + g) listed a w (fun j oj hj hne hju hno => Region.free_spec ho hfree j oj hj hne (by
          have hjs := (Array.getElem?_eq_some_iff.1 hj).1
          cases hwj : Region.waitsFor md ops n j with
          | false => simp [hjs, hwj]
          | true =>
            obtain ⟨on', hon', e', he', hb', hee⟩ := Region.waitsFor_spec hwj
            have : on' = on := Option.some.inj (hon'.symm.trans hon)
            subst this
            have := hall e' he' hb'
            rw [hee, getD_both hju] at this
            cases this) hno) hir hyi ?_
        exact WX.sound hT hQ hsel hEB hQp f _ _ _ _ _ ((put_defers _ _ _).trans hd) (inv.set hi0 (h.2 i hi).1) hk e hB hH hK
      · cases hb
    have hrd : ∀ j, j ∈ Region.ready md ops listed → j ∈ rdy md ops n E listed := fun j hj => mem_rdy.2 ⟨hj, fun hjn i hiE => by
      cases hc : listed.getD i false with
      | true => rfl
      | false => exact absurd ⟨i, hiE, hjn ▸ hj, hc⟩ hE⟩
    refine ⟨fun h0 => absurd (List.eq_nil_iff_forall_not_mem.2 fun j hj => by rw [h0] at hrd; have := (mem_rdy.1 hj).1; rw [h0] at this; cases this) h.1, fun i hi0 => ?_⟩
    have hi := hrd i hi0
    have hs := (h.2 i hi).2
    unfold stp at hs
    split at hs
    · exact hs.elim
    · rename_i o ho
      split at hs
      · obtain ⟨⟨hwt, hm⟩, hp⟩ := hs
        unfold wpOp
        simp only [ho, hwt, if_true]
        refine .inl ?_
        unfold Oper.wp
        rw [hm]
        simp only [Oper.upon]
        have e1 : Ext w (w.alloc (M i).1) := (Ext.refl w).alloc _
        have hsz : (w.alloc (M i).1).heap.size = w.heap.size + 1 := by show (w.heap.push _).size = _; simp
        refine WX.sound hT hQ hsel hEB hQp f _ _ _ _ _ ((put_defers _ _ _).trans hd) (inv.set hi0 (h.2 i hi).1) (hp w.heap.size fun h => Nat.lt_irrefl _ (hB _ h)) (e.alloc _) (fun b hb => ?_) (Holds.cons ⟨e.size, ?_⟩ (ext _ e1)) fun x hx => ?_
        · rcases List.mem_cons.1 hb with rfl | hb
          · omega
          · exact blw _ e1 b hb
        · show (w.heap.push _)[w.heap.size]? = _
          simp
        · rcases List.mem_cons.1 hx with rfl | hx
          · exact Blk.keeps
          · exact hK x hx
      · obtain ⟨R, hz, hk⟩ := hs
        exact hz.wpOp ho e hH (fun c w' => hQ c a w' hd) fun v w' hw' hr => WX.sound hT hQ hsel hEB hQp f _ _ _ _ _ ((put_defers _ _ _).trans hd) (inv.set hi0 (h.2 i hi).1) (hk v) (e.trans hw') (blw w' hw') (Holds.cons hr (ext w' hw'))
          (fun x hx => (List.mem_cons.1 hx).elim (fun e => e ▸ hz.2.1 v) (fun h => hK x h))
      · obtain ⟨v, hy, hk⟩ := hs
        exact hy.wpOp ho e hH fun w' hw' => WX.sound hT hQ hsel hEB hQp f _ _ _ _ _ ((put_defers _ _ _).trans hd) (inv.set hi0 (h.2 i hi).1) hk (e.trans hw') (blw w' hw') (ext w' hw') hK

/-- What the first step needs of an operation i: its kind, and what follows it. -/
def At (P : Program) (Pn : Pnc) (ops : Array Oper) (w0 : World) (M : Nat → Obj × (Nat → Value)) (i : Nat) (oi : Oper) (k : Kd) (a : Act) (fs : Fs) (R : Value → World → Prop) (u : Value) : Prop :=
  match k with
  | .m => Mk P ops oi (M i) a
  | .z => Z P Pn ops w0 fs oi R a
  | .y => Y P ops w0 fs oi u a
def Goes (w0 : World) (M : Nat → Obj × (Nat → Value)) (i : Nat) (oi : Oper) (k : Kd) (K : Act → List Nat → Fs → Prop) (a : Act) (bs : List Nat) (fs : Fs) (R : Value → World → Prop) (u : Value) : Prop :=
  match k with
  | .m => ∀ p, p ∉ bs → K (a.put oi.dst ((M i).2 p)) (p :: bs) (Blk w0 p (M i).1 :: fs)
  | .z => ∀ v, K (a.put oi.dst v) bs (R v :: fs)
  | .y => K (a.put oi.dst u) bs fs

theorem stp_of {i : Nat} {oi : Oper} {R : Value → World → Prop} {u : Value} (hi : ops[i]? = some oi) {K : Act → List Nat → Fs → Prop} {a : Act} {bs : List Nat} {fs : Fs} (h1 : At P Pn ops w0 M i oi (kd i) a fs R u) (h2 : Goes w0 M i oi (kd i) K a bs fs R u) : stp P Pn ops w0 kd M i K a bs fs := by
  unfold stp
  simp only [hi]
  unfold At Goes at *
  revert h1 h2
  cases kd i <;> intro h1 h2
  · exact ⟨u, h1, h2⟩
  · exact ⟨R, h1, h2⟩
  · exact ⟨h1, h2⟩
theorem of_stp {i : Nat} {oi : Oper} (hi : ops[i]? = some oi) {K : Act → List Nat → Fs → Prop} {a : Act} {bs : List Nat} {fs : Fs} (h : stp P Pn ops w0 kd M i K a bs fs) : ∃ R u, At P Pn ops w0 M i oi (kd i) a fs R u ∧ Goes w0 M i oi (kd i) K a bs fs R u := by
  unfold stp at h
  simp only [hi] at h
  unfold At Goes
  revert h
  cases kd i <;> intro h
  · obtain ⟨v, h1, h2⟩ := h; exact ⟨fun _ _ => True, v, h1, h2⟩
  · obtain ⟨R, h1, h2⟩ := h; exact ⟨R, undef, h1, h2⟩
  · exact ⟨fun _ _ => True, undef, h⟩
theorem At.of_same {i : Nat} {oi : Oper} {k : Kd} {a a' : Act} {fs : Fs} {R : Value → World → Prop} {u : Value} (h : At P Pn ops w0 M i oi k a fs R u) (he : execOp a'.eval oi = execOp a.eval oi)
    (hw : Region.wanted oi (yielded ops a'.tmps) = Region.wanted oi (yielded ops a.tmps)) : At P Pn ops w0 M i oi k a' fs R u := by
  unfold At at *
  cases k
  · exact Y.of_same h he hw
  · exact Z.of_same h he hw
  · exact Mk.of_same h he hw
theorem At.more {i : Nat} {oi : Oper} {k : Kd} {a : Act} {fs fs' : Fs} {R : Value → World → Prop} {u : Value} (h : At P Pn ops w0 M i oi k a fs R u) (l : Le fs fs') : At P Pn ops w0 M i oi k a fs' R u := by
  unfold At at *
  cases k
  · exact Y.more h l
  · exact Z.more h l
  · exact h
theorem At.less {i : Nat} {oi : Oper} {a : Act} {fs fs' : Fs} {R : Value → World → Prop} {u : Value} (h : At P Pn ops w0 M i oi .m a fs R u) : At P Pn ops w0 M i oi .m a fs' R u := h

theorem fresh_nat : ∀ bs : List Nat, ∃ p, ∀ b ∈ bs, b < p
  | [] => ⟨0, fun _ h => by cases h⟩
  | b :: bs => by
    obtain ⟨p, hp⟩ := fresh_nat bs
    refine ⟨p + b + 1, fun x hx => ?_⟩
    rcases List.mem_cons.1 hx with rfl | hx
    · omega
    · have := hp x hx; omega

/-- The value and the facts that a step of kind k brings. -/
theorem Goes.some {i : Nat} {oi : Oper} {k : Kd} {K : Act → List Nat → Fs → Prop} {a : Act} {bs : List Nat} {fs : Fs} {R : Value → World → Prop} {u : Value} (h : Goes w0 M i oi k K a bs fs R u) : ∃ v bs' fs', K (a.put oi.dst v) bs' fs' := by
  unfold Goes at h
  cases k
  · exact ⟨_, _, _, h⟩
  · exact ⟨_, _, _, h undef⟩
  · obtain ⟨p, hp⟩ := fresh_nat bs
    exact ⟨_, _, _, h p fun h => Nat.lt_irrefl _ (hp p h)⟩

/-- Whatever is listed ahead of i: the others that come up are allocations. -/
def Alone (md : Region.Mode) (ops : Array Oper) (kd : Nat → Kd) (n : Nat) (i : Nat) (listed : Array Bool) : Prop :=
  ∀ listed', HeadInv md ops n listed' → (∀ k, listed.getD k true = true → listed'.getD k true = true) → listed'.getD i true = false → ∀ j ∈ Region.ready md ops listed', j ≠ i → j < n → kd j = .m

theorem WX_first {T : Array Bool → Act → Fs → Prop} {i : Nat} {oi : Oper} (hi : ops[i]? = some oi) (hT : ∀ listed a fs fs', Le fs fs' → T listed a fs → T listed a fs')
    (hsel : ∀ (j : Nat) (o : Oper) cs b, ops[j]? = some o → o.op ≠ .select cs b)
    (hs : sinkE md ops E n = true) (hc : Region.chainB md ops n = true) (hn : n < ops.size) (hin : i < n)
    (hdone : ∀ listed a fs, T listed a fs → ∀ j ∈ rdy md ops n E listed, n ≤ j) (R : Value → World → Prop) (u : Value) :
    ∀ (f : Nat) (listed : Array Bool) (a : Act) (bs : List Nat) (fs : Fs), HeadInv md ops n listed →
      (∀ j oj, ops[j]? = some oj → j ≠ i → listed.getD j true = false → (∀ e ∈ oj.after, Region.binds md e = true → e.on ≠ i) → oi.apart ops oj = true) →
      (kd i = .y ∨ Alone md ops kd n i listed) →
      i ∈ rdy md ops n E listed → At P Pn ops w0 M i oi (kd i) a fs R u →
      Goes w0 M i oi (kd i) (WX P Pn E md ops w0 kd M n T f (listed.setIfInBounds i true)) a bs fs R u → WX P Pn E md ops w0 kd M n T (f + 1) listed a bs fs := by
  intro f
  induction f with
  | zero =>
    intro listed a bs fs inv _ _ hr hy H
    have hun := (mem_ready.1 (mem_rdy.1 hr).1).1
    refine ⟨fun h => (by rw [h] at hr; cases hr), fun j hj => ?_⟩
    have hjn : j < n := by
      rcases Nat.lt_or_ge j n with h | h
      · exact h
      · exact absurd hj (tailE hs hc hn inv _ i rfl hin hun j h)
    refine ⟨hjn, ?_⟩
    by_cases hji : j = i
    · subst hji; exact stp_of hi hy H
    · obtain ⟨_, _, _, h⟩ := H.some
      have := hdone _ _ _ h j (rdy_mono hj hji)
      omega
  | succ f ih =>
    intro listed a bs fs inv hfree hal hr hy H
    have hun := (mem_ready.1 (mem_rdy.1 hr).1).1
    refine ⟨fun h => (by rw [h] at hr; cases hr), fun j hj => ?_⟩
    have hjn : j < n := by
      rcases Nat.lt_or_ge j n with h | h
      · exact h
      · exact absurd hj (tailE hs hc hn inv _ i rfl hin hun j h)
    refine ⟨hjn, ?_⟩
    by_cases hji : j = i
    · subst hji; exact stp_of hi hy H
    · obtain ⟨hjun, oj, hoj, hall⟩ := mem_ready.1 (mem_rdy.1 hj).1
      have hnot : ∀ e ∈ oj.after, Region.binds md e = true → e.on ≠ i := fun e he hb heq => by
        have h1 := hall e he hb
        rw [heq, getD_both hun] at h1
        cases h1
      have hap := hfree j oj hoj hji hjun hnot
      obtain ⟨k1, k2, k3⟩ := Oper.apart_spec hap
      have keep : ∀ v, At P Pn ops w0 M i oi (kd i) (a.put oj.dst v) fs R u := fun v =>
        hy.of_same (execOp_put oi (fun cs b => hsel i oi cs b hi) a oj.dst v k3) (wanted_put oi a oj.dst v k3)
      have hfree' : ∀ k ok, ops[k]? = some ok → k ≠ i → (listed.setIfInBounds j true).getD k true = false →
          (∀ e ∈ ok.after, Region.binds md e = true → e.on ≠ i) → oi.apart ops ok = true := fun k ok hk hki hun hno => by
        refine hfree k ok hk hki ?_ hno
        by_cases hjk : j = k
        · subst hjk; exact hjun
        · rw [getD_set_ne true hjk] at hun; exact hun
      have hal' : kd i = .y ∨ Alone md ops kd n i (listed.setIfInBounds j true) := hal.imp id fun h l' i' m' u' => h l' i' (fun k hk => m' k (by
        by_cases hjk : j = k
        · subst hjk; rcases Nat.lt_or_ge j listed.size with h | h <;> simp [h]
        · rw [getD_set_ne true hjk]; exact hk)) u'
      have inv' := inv.set (mem_rdy.1 hj).1 hjn
      have hr' := rdy_mono hr (Ne.symm hji)
      have back : ∀ (v v' : Value), execOp (a.put oi.dst v).eval oj = execOp a.eval oj ∧ Region.wanted oj (yielded ops (a.put oi.dst v).tmps) = Region.wanted oj (yielded ops a.tmps) :=
        fun v _ => ⟨execOp_put oj (fun cs b => hsel j oj cs b hoj) a oi.dst v k1, wanted_put oj a oi.dst v k1⟩
      have swap : ∀ (v v' : Value) (bs' bs'' : List Nat) (fs' fs'' : Fs), (∀ b ∈ bs', b ∈ bs'') → Le fs' fs'' → WX P Pn E md ops w0 kd M n T f ((listed.setIfInBounds i true).setIfInBounds j true) ((a.put oi.dst v).put oj.dst v') bs' fs' →
          WX P Pn E md ops w0 kd M n T f ((listed.setIfInBounds j true).setIfInBounds i true) ((a.put oj.dst v').put oi.dst v) bs'' fs'' := fun v v' bs' bs'' fs' fs'' hb hl h => by
        rw [Array.setIfInBounds_comm _ _ hji, ← Act.put_comm a v v' k2]
        exact h.mono hT f _ _ _ _ _ _ hb hl
      -- j is an allocation, or i reads
      rcases hal with hky | hal
      · rw [hky] at H hy keep
        have h1 := of_stp hoj (H.2 j (rdy_mono hj hji)).2
        obtain ⟨Rj, uj, hAt, hGo⟩ := h1
        refine stp_of hoj (R := Rj) (u := uj) (hAt.of_same (back u u).1.symm (back u u).2.symm) ?_
        have run : ∀ (v : Value) (bs' : List Nat) (fs' : Fs), Le fs fs' → WX P Pn E md ops w0 kd M n T f ((listed.setIfInBounds i true).setIfInBounds j true) ((a.put oi.dst u).put oj.dst v) bs' fs' → WX P Pn E md ops w0 kd M n T (f + 1) (listed.setIfInBounds j true) (a.put oj.dst v) bs' fs' := by
          intro v bs' fs' hl h
          refine ih _ _ _ _ inv' hfree' hal' hr' (by rw [hky]; exact (keep v).more hl) ?_
          rw [hky]
          exact swap u v bs' bs' fs' fs' (fun _ h => h) (fun _ h => h) h
        revert hGo
        unfold Goes
        cases kd j <;> intro hGo
        · exact run _ _ _ (fun _ h => h) hGo
        · exact fun v => run _ _ _ (fun _ h => List.mem_cons_of_mem _ h) (hGo v)
        · exact fun p hp => run _ _ _ (fun _ h => List.mem_cons_of_mem _ h) (hGo p hp)
      · have hkm : kd j = .m := hal listed inv (fun _ h => h) hun j (mem_rdy.1 hj).1 hji hjn
        have from_i : ∀ v bs' fs', WX P Pn E md ops w0 kd M n T (f + 1) (listed.setIfInBounds i true) (a.put oi.dst v) bs' fs' → Mk P ops oj (M j) a ∧ ∀ q, q ∉ bs' → WX P Pn E md ops w0 kd M n T f ((listed.setIfInBounds i true).setIfInBounds j true) ((a.put oi.dst v).put oj.dst ((M j).2 q)) (q :: bs') (Blk w0 q (M j).1 :: fs') := by
          intro v bs' fs' h
          have h1 := (h.2 j (rdy_mono hj hji)).2
          unfold stp at h1
          simp only [hoj, hkm] at h1
          exact ⟨h1.1.of_same (back v v).1.symm (back v v).2.symm, h1.2⟩
        unfold stp
        simp only [hoj, hkm]
        obtain ⟨v0, b0, f0, h0⟩ := H.some
        refine ⟨(from_i v0 b0 f0 h0).1, fun q hq => ?_⟩
        refine ih _ _ _ _ inv' hfree' hal' hr' ((keep _).more (fun _ h => List.mem_cons_of_mem _ h)) ?_
        revert H
        unfold Goes
        cases kd i <;> intro H
        · exact swap _ _ _ _ _ _ (fun _ h => h) (fun _ h => h) ((from_i _ _ _ H).2 q hq)
        · exact fun v => swap _ _ _ _ _ _ (fun _ h => h) (le_swap _ _) ((from_i _ _ _ (H v)).2 q hq)
        · intro p hp
          refine swap _ _ _ _ _ _ (fun b hb => ?_) (le_swap _ _) ((from_i _ _ _ (H p fun h => hp (List.mem_cons_of_mem _ h))).2 q fun h => ?_)
          · simp only [List.mem_cons] at hb ⊢
            rcases hb with h | h | h
            · exact .inr (.inl h)
            · exact .inl h
            · exact .inr (.inr h)
          · rcases List.mem_cons.1 h with h | h
            · exact hp (h ▸ List.mem_cons_self)
            · exact hq h

/-- The walk in a given order. -/
def wr (P : Program) (Pn : Pnc) (ops : Array Oper) (w0 : World) (M : Nat → Obj × (Nat → Value)) (fin : Act → Fs → Prop) : List (Nat × Kd) → Act → List Nat → Fs → Prop
  | [], a, _, fs => fin a fs
  | (i, .y) :: rest, a, bs, fs => ∃ o, ops[i]? = some o ∧ ∃ v, Y P ops w0 fs o v a ∧ wr P Pn ops w0 M fin rest (a.put o.dst v) bs fs
  | (i, .z) :: rest, a, bs, fs => ∃ o, ops[i]? = some o ∧ ∃ R, Z P Pn ops w0 fs o R a ∧ ∀ v, wr P Pn ops w0 M fin rest (a.put o.dst v) bs (R v :: fs)
  | (i, .m) :: rest, a, bs, fs => ∃ o, ops[i]? = some o ∧ Mk P ops o (M i) a ∧ ∀ p, p ∉ bs → wr P Pn ops w0 M fin rest (a.put o.dst ((M i).2 p)) (p :: bs) (Blk w0 p (M i).1 :: fs)

theorem wr_nil {fin : Act → Fs → Prop} {a : Act} {bs : List Nat} {fs : Fs} (h : fin a fs) : wr P Pn ops w0 M fin [] a bs fs := h
theorem wr_y {fin : Act → Fs → Prop} {a : Act} {bs : List Nat} {fs : Fs} {i : Nat} {o : Oper} {rest : List (Nat × Kd)} (ho : ops[i]? = some o) (hw : Region.wanted o (yielded ops a.tmps) = true)
    (h : ∃ v, (∀ w, Ext w0 w → Holds fs w → up P w v ((execOp a.eval o).run P w)) ∧ wr P Pn ops w0 M fin rest (a.put o.dst v) bs fs) : wr P Pn ops w0 M fin ((i, .y) :: rest) a bs fs :=
  ⟨o, ho, h.choose, .inl ⟨hw, h.choose_spec.1⟩, h.choose_spec.2⟩
theorem wr_skip {fin : Act → Fs → Prop} {a : Act} {bs : List Nat} {fs : Fs} {i : Nat} {o : Oper} {rest : List (Nat × Kd)} (ho : ops[i]? = some o) (hw : Region.wanted o (yielded ops a.tmps) = false)
    (h : wr P Pn ops w0 M fin rest (a.put o.dst undef) bs fs) : wr P Pn ops w0 M fin ((i, .y) :: rest) a bs fs :=
  ⟨o, ho, undef, .inr ⟨hw, rfl⟩, h⟩
theorem wr_z {fin : Act → Fs → Prop} {a : Act} {bs : List Nat} {fs : Fs} {i : Nat} {o : Oper} {rest : List (Nat × Kd)} (R : Value → World → Prop) (ho : ops[i]? = some o) (hw : Region.wanted o (yielded ops a.tmps) = true) (hk : ∀ v, Keeps (R v))
    (h : ∀ w, Ext w0 w → Holds fs w → upR P Pn w R ((execOp a.eval o).run P w)) (k : ∀ v, wr P Pn ops w0 M fin rest (a.put o.dst v) bs (R v :: fs)) : wr P Pn ops w0 M fin ((i, .z) :: rest) a bs fs :=
  ⟨o, ho, R, ⟨hw, hk, h⟩, k⟩
theorem wr_m {fin : Act → Fs → Prop} {a : Act} {bs : List Nat} {fs : Fs} {i : Nat} {o : Oper} {rest : List (Nat × Kd)} (ho : ops[i]? = some o) (hw : Region.wanted o (yielded ops a.tmps) = true)
    (h : ∀ w, (execOp a.eval o).run P w = .ok (.value ((M i).2 w.heap.size)) (w.alloc (M i).1)) (k : ∀ p, p ∉ bs → wr P Pn ops w0 M fin rest (a.put o.dst ((M i).2 p)) (p :: bs) (Blk w0 p (M i).1 :: fs)) : wr P Pn ops w0 M fin ((i, .m) :: rest) a bs fs :=
  ⟨o, ho, ⟨hw, h⟩, k⟩

/-- All that has not been listed, but i, waits for i or for another such operation ahead of it, or is an allocation, or belongs to the tail. -/
def aloneB (md : Region.Mode) (ops : Array Oper) (kd : Nat → Kd) (n : Nat) (listed : Array Bool) (i : Nat) : Bool :=
  (List.range n).all fun j => decide (kd j = .m) || (j == i) || listed.getD j true ||
    (match ops[j]? with | some o => o.after.any fun e => Region.binds md e && (e.on == i || (decide (e.on < j) && !listed.getD e.on true && !decide (kd e.on = .m))) | none => true)

theorem alone_of {listed : Array Bool} {i : Nat} (h : aloneB md ops kd n listed i = true) : Alone md ops kd n i listed := by
  have key : ∀ (j : Nat), j < n → j ≠ i → kd j ≠ .m → listed.getD j true = false → ∀ listed', HeadInv md ops n listed' → listed'.getD i true = false →
      (∀ oj, ops[j]? = some oj → ¬ ∀ e ∈ oj.after, Region.binds md e = true → listed'.getD e.on false = true) := by
    intro j
    induction j using Nat.strongRecOn with
    | _ j ih =>
      intro hjn hji hkj hun listed' inv hui oj hoj hall
      have h1 := List.all_eq_true.1 h j (List.mem_range.2 hjn)
      simp only [hoj, hun, Bool.or_eq_true, decide_eq_true_eq, beq_iff_eq, Bool.false_eq_true, or_false] at h1
      rcases h1 with (h1 | h1) | h1
      · exact hkj h1
      · exact hji h1
      · obtain ⟨e, he, hb⟩ := Array.any_eq_true'.1 h1
        simp only [Bool.and_eq_true, Bool.or_eq_true, beq_iff_eq, decide_eq_true_eq, Bool.not_eq_true', decide_eq_false_iff_not] at hb
        obtain ⟨hbi, hb⟩ := hb
        have hl := hall e he hbi
        rcases hb with hb | ⟨⟨hlt, hune⟩, hme⟩
        · rw [hb, getD_both hui] at hl; cases hl
        · by_cases hei : e.on = i
          · rw [hei, getD_both hui] at hl; cases hl
          · have hes : e.on < ops.size := by
              have h2 := getD_both hune
              rcases Nat.lt_or_ge e.on ops.size with h | h
              · exact h
              · have : listed'.size ≤ e.on := by rw [inv.size]; exact h
                simp [Array.getElem?_eq_none this] at hl
            exact ih e.on hlt (by omega) hei hme hune listed' inv hui (ops[e.on]'hes) (by simp [hes]) (fun e' he' hb' => inv.closed e.on _ (by simp [hes]) hl e' he' hb')
  intro listed' inv mon hui j hj hji hjn
  obtain ⟨hjun, oj, hoj, hall⟩ := mem_ready.1 hj
  by_cases hkj : kd j = .m
  · exact hkj
  · refine absurd hall (key j hjn hji hkj ?_ listed' inv hui oj hoj)
    cases hc : listed.getD j true with
    | false => rfl
    | true => rw [mon j hc] at hjun; cases hjun

def kdOf (s : List (Nat × Kd)) (i : Nat) : Kd := match s.find? (fun x => x.1 == i) with | some x => x.2 | none => .y

def lexR (md : Region.Mode) (ops : Array Oper) (kd : Nat → Kd) (E : List Nat) (n : Nat) : List (Nat × Kd) → Array Bool → Bool
  | [], listed => Region.seqB md ops (ops.size - n) n listed
  | (i, k) :: rest, listed => decide (i < n) && decide (kd i = k) && (rdy md ops n E listed).contains i && Region.free md ops listed i && (decide (k = .y) || aloneB md ops kd n listed i) && lexR md ops kd E n rest (listed.setIfInBounds i true)

theorem WX_lex {T : Array Bool → Act → Fs → Prop} {fin : Act → Fs → Prop} (hT : ∀ listed a fs fs', Le fs fs' → T listed a fs → T listed a fs') (hsel : Region.noSelect ops = true) (hs : sinkE md ops E n = true) (hc : Region.chainB md ops n = true) (hn : n < ops.size)
    (hdone : ∀ listed a fs, T listed a fs → ∀ j ∈ rdy md ops n E listed, n ≤ j)
    (hb : ∀ listed a fs, Region.seqB md ops (ops.size - n) n listed = true → fin a fs → T listed a fs) :
    ∀ (s : List (Nat × Kd)) (listed : Array Bool) (a : Act) (bs : List Nat) (fs : Fs), HeadInv md ops n listed →
    lexR md ops kd E n s listed = true → wr P Pn ops w0 M fin s a bs fs → WX P Pn E md ops w0 kd M n T s.length listed a bs fs
  | [], listed, a, bs, fs, inv, hB, h => hb listed a fs (by simpa [lexR] using hB) h
  | (i, k) :: rest, listed, a, bs, fs, inv, hB, h => by
    simp only [lexR, Bool.and_eq_true, decide_eq_true_eq, Bool.or_eq_true] at hB
    obtain ⟨⟨⟨⟨⟨hin, hk⟩, hr⟩, hf⟩, hal⟩, hB'⟩ := hB
    have hr' : i ∈ rdy md ops n E listed := by simpa using hr
    have next := fun a bs fs h => WX_lex hT hsel hs hc hn hdone hb rest (listed.setIfInBounds i true) a bs fs (inv.set (mem_rdy.1 hr').1 hin) hB' h
    have hal' : kd i = .y ∨ Alone md ops kd n i listed := hal.imp (fun h => hk.trans h) alone_of
    rw [List.length_cons]
    cases k with
    | y =>
      obtain ⟨o, ho, v, hy, hK⟩ := h
      exact WX_first ho hT (Region.noSelect_spec hsel) hs hc hn hin hdone (fun _ _ => True) v _ listed a bs fs inv (Region.free_spec ho hf) hal' hr' (by rw [hk]; exact hy) (by rw [hk]; exact next _ _ _ hK)
    | z =>
      obtain ⟨o, ho, R, hy, hK⟩ := h
      exact WX_first ho hT (Region.noSelect_spec hsel) hs hc hn hin hdone R undef _ listed a bs fs inv (Region.free_spec ho hf) hal' hr' (by rw [hk]; exact hy) (by rw [hk]; exact fun v => next _ _ _ (hK v))
    | m =>
      obtain ⟨o, ho, hy, hK⟩ := h
      exact WX_first ho hT (Region.noSelect_spec hsel) hs hc hn hin hdone (fun _ _ => True) undef _ listed a bs fs inv (Region.free_spec ho hf) hal' hr' (by rw [hk]; exact hy) (by rw [hk]; exact fun p hp => next _ _ _ (hK p hp))

def allR (P : Program) (md : Region.Mode) (ops : Array Oper) (E : List Nat) (s : List (Nat × Kd)) : Bool :=
  Region.noSelect ops && decide (s.length < ops.size) && sinkE md ops E s.length && Region.chainB md ops s.length && eagerB P md ops (kdOf s) E s.length && lexR md ops (kdOf s) E s.length s (Array.replicate ops.size false)

theorem wp_regionG {id : Nat} {Q : Exit → Act → World → Prop} {a : Act} {w : World} {l : List Oper} (E : List Nat) (s : List (Nat × Kd)) (M : Nat → Obj × (Nat → Value)) (Pn : Pnc) (hQ : ∀ c a' w', a'.defers = a.defers → Ext w w' → Pn c w' → Q (.panic c) a' w')
    (hQp : E ≠ [] → ∀ c a d v w, Q (.panic c) (a.put d v) w → Q (.panic c) a w) (hm : P.follows .mixedOrders = true) (hB : allR P .any l.toArray E s = true)
    (h : wr P Pn l.toArray w M (fun a fs => ∀ w', Ext w w' → Holds fs w' → wpList P l.toArray Q (l.drop s.length) a w') s a [] []) : (Code.region id l.toArray true).wp P Q a w := by
  simp only [allR, Bool.and_eq_true, decide_eq_true_eq] at hB
  obtain ⟨⟨⟨⟨⟨hsel, hn⟩, hs⟩, hc⟩, heb⟩, hlex⟩ := hB
  have hn' : s.length < l.length := by simpa using hn
  have hdl : (l.drop s.length).length = l.toArray.size - s.length := by simp
  have inv0 : HeadInv .any l.toArray s.length (Array.replicate l.toArray.size false) :=
    ⟨by simp, fun j oj _ hl => (by rw [getD_replicate_false] at hl; cases hl), fun t _ ht => getD_in (by simpa using ht) (getD_replicate_false _ _)⟩
  let T : Array Bool → Act → Fs → Prop := fun listed a fs => Region.seqB .any l.toArray (l.toArray.size - s.length) s.length listed = true ∧ ∀ w', Ext w w' → Holds fs w' → wpList P l.toArray Q (l.drop s.length) a w'
  have H := WX_lex (P := P) (Pn := Pn) (E := E) (w0 := w) (M := M) (md := .any) (kd := kdOf s) (T := T) (fun _ _ _ _ l h => ⟨h.1, fun w' e hf => h.2 w' e (hf.le l)⟩) hsel hs hc hn (fun listed a fs hT j hj => seqB_ready hT.1 j (mem_rdy.1 hj).1) (fun listed a fs h1 h2 => ⟨h1, h2⟩) s _ a [] [] inv0 hlex h
  refine wp_region_any hm ?_
  have := WX.sound (Q := Q) (g := l.toArray.size - s.length) (fun listed a' fs w' hT hw hF => by
    have := wpAny_of_seq (md := .any) (Q' := Q) (l.drop s.length) s.length listed a' w' (fun j => by simp [List.getElem?_drop]) (by rw [hdl]; exact hT.1) (hT.2 w' hw hF)
    rwa [hdl] at this) hQ (Region.noSelect_spec hsel) heb hQp _ _ _ _ _ { w with drawn := w.drawn + 1 } rfl inv0 H (Ext.drew (Ext.refl w)) (fun b hb => by cases hb) (fun b hb => by cases hb) (fun b hb => by cases hb)
  rw [show s.length + (l.toArray.size - s.length) = l.toArray.size by omega] at this
  exact this

theorem wp_regionP {id : Nat} {Q : Exit → Act → World → Prop} {a : Act} {w : World} {l : List Oper} (s : List (Nat × Kd)) (M : Nat → Obj × (Nat → Value)) (Pn : Pnc) (hQ : ∀ c a' w', a'.defers = a.defers → Ext w w' → Pn c w' → Q (.panic c) a' w') (hm : P.follows .mixedOrders = true) (hB : allR P .any l.toArray [] s = true)
    (h : wr P Pn l.toArray w M (fun a fs => ∀ w', Ext w w' → Holds fs w' → wpList P l.toArray Q (l.drop s.length) a w') s a [] []) : (Code.region id l.toArray true).wp P Q a w :=
  wp_regionG [] s M Pn hQ (fun h => absurd rfl h) hm hB h

theorem wp_region {id : Nat} {Q : Exit → Act → World → Prop} {a : Act} {w : World} {l : List Oper} (s : List (Nat × Kd)) (M : Nat → Obj × (Nat → Value)) (hm : P.follows .mixedOrders = true) (hB : allR P .any l.toArray [] s = true)
    (h : wr P (fun _ _ => False) l.toArray w M (fun a fs => ∀ w', Ext w w' → Holds fs w' → wpList P l.toArray Q (l.drop s.length) a w') s a [] []) : (Code.region id l.toArray true).wp P Q a w :=
  wp_regionP s M _ (fun _ _ _ _ _ h => h.elim) hm hB h

theorem wp_regionE {id : Nat} {Q : Exit → Act → World → Prop} {a : Act} {w : World} {l : List Oper} (E : List Nat) (s : List (Nat × Kd)) (M : Nat → Obj × (Nat → Value)) (hQp : ∀ c a d v w, Q (.panic c) (a.put d v) w → Q (.panic c) a w) (hm : P.follows .mixedOrders = true) (hB : allR P .any l.toArray E s = true)
    (h : wr P (fun _ _ => False) l.toArray w M (fun a fs => ∀ w', Ext w w' → Holds fs w' → wpList P l.toArray Q (l.drop s.length) a w') s a [] []) : (Code.region id l.toArray true).wp P Q a w :=
  wp_regionG E s M _ (fun _ _ _ _ _ h => h.elim) (fun _ => hQp) hm hB h

theorem bodyPost_put {fn : Func} {R : Ending → World → Prop} (c : List PanicEntry) (a : Act) (d : Option Tmp) (v : Value) (w : World) (h : bodyPost P fn R (.panic c) (a.put d v) w) : bodyPost P fn R (.panic c) a w :=
  ⟨(put_defers a d v).symm.trans h.1, h.2⟩

/-- Nothing follows what cannot return. -/
theorem wr_dead {fin : Act → Fs → Prop} (hfin : ∀ a fs, (∃ f ∈ fs, ∀ w, ¬ f w) → fin a fs) : ∀ (s : List (Nat × Kd)) (a : Act) (bs : List Nat) (fs : Fs), (∃ f ∈ fs, ∀ w, ¬ f w) →
    (∀ x ∈ s, ∃ o, ops[x.1]? = some o ∧ (x.2 = .y ∨ (x.2 = .m ∧ ∀ a, Mk P ops o (M x.1) a))) → wr P Pn ops w0 M fin s a bs fs
  | [], a, _, fs, hd, _ => hfin a fs hd
  | (i, k) :: rest, a, bs, fs, hd, hx => by
    obtain ⟨o, ho, hk⟩ := hx (i, k) List.mem_cons_self
    have more : ∀ f, ∃ g ∈ f :: fs, ∀ w, ¬ g w := fun f => hd.imp fun g ⟨h1, h2⟩ => ⟨List.mem_cons_of_mem _ h1, h2⟩
    have hx' := fun x h => hx x (List.mem_cons_of_mem _ h)
    rcases hk with hk | ⟨hk, hmk⟩ <;> simp only at hk <;> subst hk
    · refine ⟨o, ho, undef, ?_, wr_dead hfin rest _ _ _ hd hx'⟩
      unfold Y
      cases Region.wanted o (yielded ops a.tmps)
      · exact .inr ⟨rfl, rfl⟩
      · obtain ⟨f, hf, hno⟩ := hd
        exact .inl ⟨rfl, fun w _ hh => absurd (hh f hf) (hno w)⟩
    · exact ⟨o, ho, hmk a, fun p _ => wr_dead hfin rest _ _ _ (more _) hx'⟩
end
end Go.Proofs.Ytgkdeknfmmgbdaa.Rr

namespace Go.Proofs.Ytgkdeknfmmgbdaa
set_option linter.unusedVariables false
set_option linter.unusedSimpArgs false
open Go.RowKit

theorem pick_any (f : Bool) (a b : Int × Int) (w : World) : Calls Try.prog 93 #[.bool f, rv a, rv b] w fun e w' => e = .returned (rv (if f then a else b)) ∧ Ext w w' := by
  obtain ⟨a1, a2⟩ := a; obtain ⟨b1, b2⟩ := b
  cases f
  · go_enter Try.func93, Try.ntmps93
    go_wp2
    exact bodyPost_ret (v := rv (b1, b2)) (by simp [results, Try.results93, go_sem]) rfl ⟨rfl, (by with_reducible repeat (first | exact Ext.refl _ | assumption | apply Ext.drewN | apply Ext.drew | apply Ext.alloc | (refine Ext.setCell ?_ (by simp <;> omega) _) | (refine Ext.trans ?_ (by assumption))))⟩
  · go_enter Try.func93, Try.ntmps93
    go_wp2
    exact bodyPost_ret (v := rv (a1, a2)) (by simp [results, Try.results93, go_sem]) rfl ⟨rfl, (by with_reducible repeat (first | exact Ext.refl _ | assumption | apply Ext.drewN | apply Ext.drew | apply Ext.alloc | (refine Ext.setCell ?_ (by simp <;> omega) _) | (refine Ext.trans ?_ (by assumption))))⟩

def minI (a b : Int × Int) : (Int × Int) × Bool := (if decide (cmpI a b ≤ 0) then a else b, true)
def maxI (a b : Int × Int) : (Int × Int) × Bool := (if decide (0 ≤ cmpI a b) then a else b, true)

set_option maxRecDepth 100000 in
set_option maxHeartbeats 2000000 in
theorem min_any (a b : Int × Int) (ha : I2 a) (hb : I2 b) (w : World) :
    Calls Try.prog 92 #[rv a, rv b] w fun e w' => e = .returned (rbv (minI a b)) ∧ Ext w w' := by
  have HC := Lib.hid (fun w => Cmp_any a b ha hb w)
  obtain ⟨a1, a2⟩ := a; obtain ⟨b1, b2⟩ := b
  have HP : ∃ r : Int × Int, (∀ w, Calls Try.prog 93 #[.bool (decide (cmpI (a1, a2) (b1, b2) ≤ 0)), rv (a1, a2), rv (b1, b2)] w fun e w' => e = .returned (rv r) ∧ Ext w w') ∧ minI (a1, a2) (b1, b2) = (r, true) := ⟨_, fun w => pick_any _ _ _ w, rfl⟩
  obtain ⟨⟨r1, r2⟩, hp, hm⟩ := HP
  rw [hm]
  have HP := Lib.hid hp
  clear hp hm
  go_enter Try.func92, Try.ntmps92
  go_wp2_with (fail)
  refine Rg.wp_region 7 7 (fun _ => none) (fun _ _ => rfl) (by kernel_rfl) (by kernel_rfl) ?_
  simp only [List.take_succ_cons, List.take_zero, List.drop_succ_cons, List.drop_zero]
  repeat
    (refine Rg.wk_step (by rfl) ?_
     apply Exists.intro
     refine ⟨fun wz hw => ?_, ?_⟩
     · obtain ⟨hc, hf⟩ := hw.cells
       go_simp
       first
         | exact Rg.up_value
         | (apply Rg.up_enter; (with_reducible refine (HC.out _).mono ?_); rintro e w1 ⟨rfl, hb1⟩; exact ⟨rfl, hb1⟩)
         | (apply Rg.up_enter; (with_reducible refine (HP.out _).mono ?_); rintro e w1 ⟨rfl, hb1⟩; exact ⟨rfl, hb1⟩)
     simp only [Act.put, List.setIfInBounds_toArray, List.set_cons_zero, List.set_cons_succ])
  refine Rg.wk_nil (Rg.fin0 rfl ?_)
  intro wy hy
  obtain ⟨hcy, hfy⟩ := hy.cells
  go_wp2
  exact bodyPost_ret (v := rbv ((r1, r2), true)) (by simp [results, Try.results92, go_sem, hcy]) rfl ⟨rfl, (by with_reducible repeat (first | exact Ext.refl _ | assumption | apply Ext.drewN | apply Ext.drew | apply Ext.alloc | (refine Ext.setCell ?_ (by simp <;> omega) _) | (refine Ext.trans ?_ (by assumption))))⟩

set_option maxRecDepth 100000 in
set_option maxHeartbeats 2000000 in
theorem max_any (a b : Int × Int) (ha : I2 a) (hb : I2 b) (w : World) :
    Calls Try.prog 95 #[rv a, rv b] w fun e w' => e = .returned (rbv (maxI a b)) ∧ Ext w w' := by
  have HC := Lib.hid (fun w => Cmp_any a b ha hb w)
  obtain ⟨a1, a2⟩ := a; obtain ⟨b1, b2⟩ := b
  have HP : ∃ r : Int × Int, (∀ w, Calls Try.prog 93 #[.bool (decide (0 ≤ cmpI (a1, a2) (b1, b2))), rv (a1, a2), rv (b1, b2)] w fun e w' => e = .returned (rv r) ∧ Ext w w') ∧ maxI (a1, a2) (b1, b2) = (r, true) := ⟨_, fun w => pick_any _ _ _ w, rfl⟩
  obtain ⟨⟨r1, r2⟩, hp, hm⟩ := HP
  rw [hm]
  have HP := Lib.hid hp
  clear hp hm
  go_enter Try.func95, Try.ntmps95
  go_wp2_with (fail)
  refine Rg.wp_region 7 7 (fun _ => none) (fun _ _ => rfl) (by kernel_rfl) (by kernel_rfl) ?_
  simp only [List.take_succ_cons, List.take_zero, List.drop_succ_cons, List.drop_zero]
  repeat
    (refine Rg.wk_step (by rfl) ?_
     apply Exists.intro
     refine ⟨fun wz hw => ?_, ?_⟩
     · obtain ⟨hc, hf⟩ := hw.cells
       go_simp
       first
         | exact Rg.up_value
         | (apply Rg.up_enter; (with_reducible refine (HC.out _).mono ?_); rintro e w1 ⟨rfl, hb1⟩; exact ⟨rfl, hb1⟩)
         | (apply Rg.up_enter; (with_reducible refine (HP.out _).mono ?_); rintro e w1 ⟨rfl, hb1⟩; exact ⟨rfl, hb1⟩)
     simp only [Act.put, List.setIfInBounds_toArray, List.set_cons_zero, List.set_cons_succ])
  refine Rg.wk_nil (Rg.fin0 rfl ?_)
  intro wy hy
  obtain ⟨hcy, hfy⟩ := hy.cells
  go_wp2
  exact bodyPost_ret (v := rbv ((r1, r2), true)) (by simp [results, Try.results95, go_sem, hcy]) rfl ⟨rfl, (by with_reducible repeat (first | exact Ext.refl _ | assumption | apply Ext.drewN | apply Ext.drew | apply Ext.alloc | (refine Ext.setCell ?_ (by simp <;> omega) _) | (refine Ext.trans ?_ (by assumption))))⟩

def doI : Nat → (Int × Int) → (Int × Int) → (Int × Int) × Bool
  | 0 => addI | 1 => subI | 2 => mulI | 3 => quoI | 4 => minI | _ => maxI

theorem do_any (hD : Div64Said) (i : Nat) (a b : Int × Int) (ha : I2 a) (hb : I2 b) (w : World) :
    Calls Try.prog (opFn i) #[rv a, rv b] w fun e w' => e = .returned (rbv (doI i a b)) ∧ Ext w w' := by
  match i with
  | 0 => exact Add_any hD a b ha hb w
  | 1 => exact Sub_any hD a b ha hb w
  | 2 => exact Mul_any a b ha hb w
  | 3 => exact Quo_any a b ha hb w
  | 4 => exact min_any a b ha hb w
  | _ + 5 => exact max_any a b ha hb w

theorem enters_do (i : Nat) (args : Array Value) (w : World) : (callFunc (opFn i) args).run Try.prog w = .ok (.enter (opFn i) args) w := by
  match i with
  | 0 => show (callFunc 88 args).run _ _ = .ok (.enter 88 args) w; go_simp
  | 1 => show (callFunc 89 args).run _ _ = .ok (.enter 89 args) w; go_simp
  | 2 => show (callFunc 90 args).run _ _ = .ok (.enter 90 args) w; go_simp
  | 3 => show (callFunc 91 args).run _ _ = .ok (.enter 91 args) w; go_simp
  | 4 => show (callFunc 92 args).run _ _ = .ok (.enter 92 args) w; go_simp
  | _ + 5 => show (callFunc 95 args).run _ _ = .ok (.enter 95 args) w; go_simp

def applyI (i : Nat) (a b : Int × Int) : (Int × Int) × Int :=
  if i = 3 ∧ b.1 = 0 then ((0, 0), 15) else if (doI i a b).2 then ((doI i a b).1, 0) else ((0, 0), 3)
abbrev rev (p : (Int × Int) × Int) : Value := .tuple #[rv p.1, .int .i64 p.2]

theorem apply_zero (f : Value) (a : Int × Int) (b2 : Int) (w : World) :
    Calls Try.prog 74 #[.agg #[.string ⟨#[47]⟩, f], rv a, rv (0, b2)] w fun e w' => e = .returned (rev ((0, 0), 15)) ∧ Ext w w' := by
  obtain ⟨a1, a2⟩ := a
  go_enter Try.func74, Try.ntmps74
  go_wp2
  exact bodyPost_ret (v := rev ((0, 0), 15)) (by simp [results, Try.results74, go_sem]) rfl ⟨rfl, (by with_reducible repeat (first | exact Ext.refl _ | assumption | apply Ext.drewN | apply Ext.drew | apply Ext.alloc | (refine Ext.setCell ?_ (by simp <;> omega) _) | (refine Ext.trans ?_ (by assumption))))⟩

set_option maxRecDepth 100000 in
set_option maxHeartbeats 2000000 in
theorem apply_do (nm : ByteArray) (f : FuncId) (a b : Int × Int) (h : (nm.toList == [47]) = false ∨ (nm = ⟨#[47]⟩ ∧ ¬ b.1 = 0)) (p : (Int × Int) × Bool) 
    (hE : ∀ (args : Array Value) (w : World), (callFunc f args).run Try.prog w = .ok (.enter f args) w) (hC : ∀ w, Calls Try.prog f #[rv a, rv b] w fun e w' => e = .returned (rbv p) ∧ Ext w w') (w : World) :
    Calls Try.prog 74 #[.agg #[.string nm, .func (.func f) #[] #[]], rv a, rv b] w fun e w' => e = .returned (rev (if p.2 then (p.1, 0) else ((0, 0), 3))) ∧ Ext w w' := by
  have HC := Lib.hid hC; clear hC
  obtain ⟨a1, a2⟩ := a; obtain ⟨b1, b2⟩ := b
  obtain ⟨⟨p1, p2⟩, ok⟩ := p
  rcases h with h | ⟨rfl, h⟩
  · cases ok
    · go_enter Try.func74, Try.ntmps74
      go_wp2_with ((with_reducible refine (HC.out _).mono ?_); rintro e w1 ⟨rfl, hb⟩; obtain ⟨hc, hf⟩ := hb.cells; have hz := hb.size; simp at hz; have z1 : w.heap.size + 1 + 1 + 1 < w1.heap.size := (by omega))
      exact bodyPost_ret (v := rev ((0, 0), 3)) (by simp [results, Try.results74, go_sem, hc, z1]) rfl ⟨rfl, (by with_reducible repeat (first | exact Ext.refl _ | assumption | apply Ext.drewN | apply Ext.drew | apply Ext.alloc | (refine Ext.setCell ?_ (by simp <;> omega) _) | (refine Ext.trans ?_ (by assumption))))⟩
    · go_enter Try.func74, Try.ntmps74
      go_wp2_with ((with_reducible refine (HC.out _).mono ?_); rintro e w1 ⟨rfl, hb⟩; obtain ⟨hc, hf⟩ := hb.cells; have hz := hb.size; simp at hz; have z1 : w.heap.size + 1 + 1 + 1 < w1.heap.size := (by omega))
      exact bodyPost_ret (v := rev ((p1, p2), 0)) (by simp [results, Try.results74, go_sem, hc, z1]) rfl ⟨rfl, (by with_reducible repeat (first | exact Ext.refl _ | assumption | apply Ext.drewN | apply Ext.drew | apply Ext.alloc | (refine Ext.setCell ?_ (by simp <;> omega) _) | (refine Ext.trans ?_ (by assumption))))⟩
  · cases ok
    · go_enter Try.func74, Try.ntmps74
      go_wp2_with ((with_reducible refine (HC.out _).mono ?_); rintro e w1 ⟨rfl, hb⟩; obtain ⟨hc, hf⟩ := hb.cells; have hz := hb.size; simp at hz; have z1 : w.heap.size + 1 + 1 + 1 < w1.heap.size := (by omega))
      exact bodyPost_ret (v := rev ((0, 0), 3)) (by simp [results, Try.results74, go_sem, hc, z1]) rfl ⟨rfl, (by with_reducible repeat (first | exact Ext.refl _ | assumption | apply Ext.drewN | apply Ext.drew | apply Ext.alloc | (refine Ext.setCell ?_ (by simp <;> omega) _) | (refine Ext.trans ?_ (by assumption))))⟩
    · go_enter Try.func74, Try.ntmps74
      go_wp2_with ((with_reducible refine (HC.out _).mono ?_); rintro e w1 ⟨rfl, hb⟩; obtain ⟨hc, hf⟩ := hb.cells; have hz := hb.size; simp at hz; have z1 : w.heap.size + 1 + 1 + 1 < w1.heap.size := (by omega))
      exact bodyPost_ret (v := rev ((p1, p2), 0)) (by simp [results, Try.results74, go_sem, hc, z1]) rfl ⟨rfl, (by with_reducible repeat (first | exact Ext.refl _ | assumption | apply Ext.drewN | apply Ext.drew | apply Ext.alloc | (refine Ext.setCell ?_ (by simp <;> omega) _) | (refine Ext.trans ?_ (by assumption))))⟩

theorem apply_any (hD : Div64Said) (i : Nat) (hi : i < 6) (a b : Int × Int) (ha : I2 a) (hb : I2 b) (w : World) :
    Calls Try.prog 74 #[.agg #[.string (opNm i), .func (.func (opFn i)) #[] #[]], rv a, rv b] w fun e w' => e = .returned (rev (applyI i a b)) ∧ Ext w w' := by
  by_cases h : i = 3 ∧ b.1 = 0
  · rw [show applyI i a b = ((0, 0), 15) from if_pos h]
    obtain ⟨rfl, hb0⟩ := h
    obtain ⟨b1, b2⟩ := b
    simp only at hb0
    subst hb0
    exact apply_zero _ a b2 w
  · rw [show applyI i a b = _ from if_neg h]
    refine apply_do (opNm i) (opFn i) a b ?_ (doI i a b) (enters_do i) (fun w => do_any hD i a b ha hb w) w
    have hi' : i = 0 ∨ i = 1 ∨ i = 2 ∨ i = 3 ∨ i = 4 ∨ i = 5 := by omega
    rcases hi' with rfl | rfl | rfl | rfl | rfl | rfl
    · exact .inl (by simp [opNm, go_sem])
    · exact .inl (by simp [opNm, go_sem])
    · exact .inl (by simp [opNm, go_sem])
    · exact .inr ⟨rfl, fun e => h ⟨rfl, e⟩⟩
    · exact .inl (by simp [opNm, go_sem])
    · exact .inl (by simp [opNm, go_sem])

end Go.Proofs.Ytgkdeknfmmgbdaa

namespace Go.Proofs.Ytgkdeknfmmgbdaa
set_option linter.unusedVariables false
set_option linter.unusedSimpArgs false
open Go.RowKit

inductive Ex
  | mk (op : ByteArray) (num : Int × Int) (name : ByteArray) (args : List Ex)

def cellsE (w : World) (b k : Nat) (c : Nat → Value) : Prop := ∀ j, j < 5 → w.cell? ⟨b, k * 5 + j, none⟩ = some (c j)
def aggE (c : Nat → Value) : Value := .agg #[c 0, c 1, c 2, c 3, c 4]

mutual
/-- The value v, in the world w, stands for the tree; the blocks that hold its parts are among S. -/
def Rd (S : Nat → Prop) (w : World) : Ex → Value → Prop
  | .mk op n nm args, v => ∃ base cap, v = .agg #[.string op, .int .i64 n.1, .int .i64 n.2, .string nm, .slice base args.length cap] ∧ I2 n ∧ args.length ≤ 1000000 ∧ (args = [] ∨ ∃ b, base = some ⟨b, 0, none⟩ ∧ S b ∧ RdL S w b 0 args)
def RdL (S : Nat → Prop) (w : World) (b : Nat) : Nat → List Ex → Prop
  | _, [] => True
  | k, t :: ts => (∃ c, cellsE w b k c ∧ Rd S w t (aggE c)) ∧ RdL S w b (k + 1) ts
end

mutual
theorem Rd.frame {S S' : Nat → Prop} {w w' : World} (h : ∀ b o, S b → b < w.heap.size → w'.cell? ⟨b, o, none⟩ = w.cell? ⟨b, o, none⟩) (hS : ∀ b, S b → S' b) : ∀ (t : Ex) (v : Value), Rd S w t v → Rd S' w' t v
  | .mk op n nm args, v, r => by
    unfold Rd at r ⊢
    obtain ⟨base, cap, hv, hn, hn2, hr⟩ := r
    refine ⟨base, cap, hv, hn, hn2, hr.imp id fun ⟨b, hb, hs, hl⟩ => ⟨b, hb, hS b hs, RdL.frame h hS b hs args 0 hl⟩⟩
theorem RdL.frame {S S' : Nat → Prop} {w w' : World} (h : ∀ b o, S b → b < w.heap.size → w'.cell? ⟨b, o, none⟩ = w.cell? ⟨b, o, none⟩) (hS : ∀ b, S b → S' b) (b : Nat) (hs : S b) : ∀ (ts : List Ex) (k : Nat), RdL S w b k ts → RdL S' w' b k ts
  | [], _, _ => by unfold RdL; trivial
  | t :: ts, k, r => by
    unfold RdL at r ⊢
    obtain ⟨⟨c, hc, hr⟩, hl⟩ := r
    exact ⟨⟨c, fun j hj => (h b _ hs (World.block_lt_of_cell? w _ (hc j hj))).trans (hc j hj), Rd.frame h hS t _ hr⟩, RdL.frame h hS b hs ts (k + 1) hl⟩
end

theorem Rd.ext {S : Nat → Prop} {w w' : World} (e : Ext w w') {t : Ex} {v : Value} (r : Rd S w t v) : Rd S w' t v :=
  Rd.frame (fun b o _ hb => e.cells.1 b o hb) (fun _ h => h) t v r

theorem RdL.get {S : Nat → Prop} {w : World} {b : Nat} : ∀ {ts : List Ex} {k : Nat}, RdL S w b k ts → ∀ (i : Nat) (h : i < ts.length), ∃ c, cellsE w b (k + i) c ∧ Rd S w ts[i] (aggE c)
  | t :: ts, k, r, 0, _ => by
    unfold RdL at r
    exact r.1
  | t :: ts, k, r, i + 1, h => by
    unfold RdL at r
    obtain ⟨c, h1, h2⟩ := RdL.get r.2 i (by simpa using h)
    exact ⟨c, by rw [show k + (i + 1) = k + 1 + i by omega]; exact h1, h2⟩

mutual
def Ex.parts : Ex → Nat
  | .mk _ _ _ args => 1 + Ex.partsL args
def Ex.partsL : List Ex → Nat
  | [] => 0
  | t :: ts => t.parts + Ex.partsL ts
end
mutual
def Ex.depth : Ex → Nat
  | .mk _ _ _ args => 1 + Ex.depthL args
def Ex.depthL : List Ex → Nat
  | [] => 0
  | t :: ts => max t.depth (Ex.depthL ts)
end

end Go.Proofs.Ytgkdeknfmmgbdaa

namespace Go.Proofs.Ytgkdeknfmmgbdaa
set_option linter.unusedVariables false
set_option linter.unusedSimpArgs false
open Go.RowKit

mutual
def smallO : Ex → Nat → Nat → Option Nat
  | .mk _ _ _ ts, p, d => if p = 0 ∨ d = 0 then none else smallL ts (p - 1) (d - 1)
def smallL : List Ex → Nat → Nat → Option Nat
  | [], p, _ => some p
  | t :: ts, p, d => (smallO t p d).bind fun q => smallL ts q d
end
mutual
theorem smallO_eq : ∀ (t : Ex) (p d : Nat), smallO t p d = if t.parts ≤ p ∧ t.depth ≤ d then some (p - t.parts) else none
  | .mk _ _ _ ts, p, d => by
    rw [smallO, smallL_eq, Ex.parts, Ex.depth]
    by_cases h : p = 0 ∨ d = 0
    · rw [if_pos h, if_neg (by omega)]
    · rw [if_neg h]
      by_cases h2 : Ex.partsL ts ≤ p - 1 ∧ Ex.depthL ts ≤ d - 1
      · rw [if_pos h2, if_pos (by omega)]; congr 1; omega
      · rw [if_neg h2, if_neg (by omega)]
theorem smallL_eq : ∀ (ts : List Ex) (p d : Nat), smallL ts p d = if Ex.partsL ts ≤ p ∧ Ex.depthL ts ≤ d then some (p - Ex.partsL ts) else none
  | [], p, d => by rw [smallL, Ex.partsL, Ex.depthL, if_pos (by omega)]; rfl
  | t :: ts, p, d => by
    rw [smallL, smallO_eq, Ex.partsL, Ex.depthL]
    by_cases h : t.parts ≤ p ∧ t.depth ≤ d
    · rw [if_pos h, Option.bind_some, smallL_eq]
      by_cases h2 : Ex.partsL ts ≤ p - t.parts ∧ Ex.depthL ts ≤ d
      · rw [if_pos h2, if_pos (by omega)]; congr 1; omega
      · rw [if_neg h2, if_neg (by omega)]
    · rw [if_neg h, if_neg (by omega)]; rfl
end

theorem Rd.shape {S : Nat → Prop} {w : World} {t : Ex} {c : Nat → Value} (h : Rd S w t (aggE c)) : ∃ op n1 n2 nm base len cap, c 0 = .string op ∧ c 1 = .int .i64 n1 ∧ c 2 = .int .i64 n2 ∧ c 3 = .string nm ∧ c 4 = .slice base len cap ∧
    aggE c = .agg #[.string op, .int .i64 n1, .int .i64 n2, .string nm, .slice base len cap] := by
  obtain ⟨op, n, nm, ts⟩ := t
  unfold Rd at h
  obtain ⟨base, cap, hv, -, -, -⟩ := h
  have hv' := hv
  unfold aggE at hv'
  injection hv' with hv'
  have := congrArg Array.toList hv'
  simp only [List.cons.injEq] at this
  exact ⟨op, n.1, n.2, nm, base, _, cap, this.1, this.2.1, this.2.2.1, this.2.2.2.1, this.2.2.2.2.1, hv⟩

def smallV : Option Nat → Value
  | none => .tuple #[.int .i64 0, .bool false]
  | some q => .tuple #[.int .i64 q, .bool true]

theorem smallO_le {t : Ex} {p d q : Nat} (h : smallO t p d = some q) : q ≤ p := by
  rw [smallO_eq] at h
  split at h
  · injection h with h; omega
  · cases h

theorem small_base (S : Nat → Prop) (t : Ex) (p d : Nat) (h : p = 0 ∨ (¬ p = 0 ∧ d = 0)) (hp : p ≤ 1000000) (w : World) (v : Value) (hv : Rd S w t v) :
    Calls Try.prog 68 #[v, .int .i64 p, .int .i64 d] w fun e w' => e = .returned (smallV none) ∧ Ext w w' := by
  obtain ⟨op, n, nm, ts⟩ := t
  unfold Rd at hv
  obtain ⟨base, cap, rfl, -, -, -⟩ := hv
  rcases h with rfl | ⟨h, rfl⟩
  · go_enter Try.func68, Try.ntmps68
    go_wp2
    go_ret2
    exact ⟨rfl, (by with_reducible repeat (first | exact Ext.refl _ | assumption | apply Ext.drewN | apply Ext.drew | apply Ext.alloc | (refine Ext.setCell ?_ (by simp <;> omega) _) | (refine Ext.trans ?_ (by assumption))))⟩
  · have hb : (1 : Int) ≤ (p : Int) := by omega
    have hb2 : ¬ (p : Int) < 1 := by omega
    go_enter Try.func68, Try.ntmps68
    go_wp2
    go_ret2
    exact ⟨rfl, (by with_reducible repeat (first | exact Ext.refl _ | assumption | apply Ext.drewN | apply Ext.drew | apply Ext.alloc | (refine Ext.setCell ?_ (by simp <;> omega) _) | (refine Ext.trans ?_ (by assumption))))⟩

set_option maxRecDepth 100000 in
set_option maxHeartbeats 1000000 in
theorem small_any (S : Nat → Prop) : ∀ (d p : Nat) (_ : p ≤ 1000000) (_ : d ≤ 1000) (t : Ex) (w : World) (v : Value) (_ : Rd S w t v),
    Calls Try.prog 68 #[v, .int .i64 p, .int .i64 d] w fun e w' => e = .returned (smallV (smallO t p d)) ∧ Ext w w'
  | 0, p, hp, _, t, w, v, hv => by
    have : smallO t p 0 = none := by rw [smallO_eq, if_neg]; cases t; rw [Ex.depth]; omega
    rw [this]
    exact small_base S t p 0 (by omega) hp w v hv
  | d + 1, 0, hp, _, t, w, v, hv => by
    have : smallO t 0 (d + 1) = none := by rw [smallO_eq, if_neg]; cases t; rw [Ex.parts]; omega
    rw [this]
    exact small_base S t 0 (d + 1) (by omega) hp w v hv
  | d + 1, p + 1, hp, hd, .mk op n nm ts, w, v, hv => by
    have IH := Lib.hid (fun q hq t w v hv => small_any S d q hq (by omega) t w v hv)
    unfold Rd at hv
    obtain ⟨base, cap, rfl, -, hlen, hr⟩ := hv
    have HR := Lib.hid hr; clear hr
    have hs : smallO (.mk op n nm ts) (p + 1) (d + 1) = smallL ts p d := by rw [smallO, if_neg (by omega)]; rfl
    rw [hs]
    clear hs
    have e1 : ((p + 1 : Nat) : Int) = (p : Int) + 1 := by omega
    have e2 : ((d + 1 : Nat) : Int) = (d : Int) + 1 := by omega
    rw [e1, e2]
    clear e1 e2
    have f1 : ¬ (p : Int) + 1 < 1 := by omega
    have f2 : ¬ (d : Int) + 1 < 1 := by omega
    go_enter Try.func68, Try.ntmps68
    go_wp2
    go_loopw [1, 23] (fun x i wr => ∃ k q : Nat, k ≤ ts.length ∧ q ≤ p ∧ i = .int .i64 k ∧ x = .int .i64 q ∧ smallL (ts.drop k) q d = smallL ts p d ∧ Ext w wr) (fun _ i _ => ts.length - (intOf i).toNat)
    case atStart => exact ⟨0, p, Nat.zero_le _, Nat.le_refl _, rfl, by go_num, rfl, (by with_reducible repeat (first | exact Ext.refl _ | assumption | apply Ext.drewN | apply Ext.drew | apply Ext.alloc | (refine Ext.setCell ?_ (by simp <;> omega) _) | (refine Ext.trans ?_ (by assumption))))⟩
    case round =>
      obtain ⟨k, q, hk, hq, rfl, rfl, hi, hx⟩ := hrel
      have Hi := Lib.hid hi; clear hi
      rcases Nat.lt_or_ge k ts.length with hlt | hge
      · rcases HR.out with h | ⟨b, rfl, hs, hl⟩
        · subst h; exact absurd hlt (Nat.not_lt_zero _)
        · obtain ⟨c, hc, hrd⟩ := hl.get k hlt
          obtain ⟨op', n1, n2, nm', base', len', cap', c0, c1, c2, c3, c4, ca⟩ := hrd.shape
          rw [Nat.zero_add] at hc
          have hbl : b < w.heap.size := World.block_lt_of_cell? w _ (hc 0 (by decide))
          have h0 := (hx.cells.1 b _ hbl).trans ((hc 0 (by decide)).trans (congrArg some c0))
          have h1 := (hx.cells.1 b _ hbl).trans ((hc 1 (by decide)).trans (congrArg some c1))
          have h2 := (hx.cells.1 b _ hbl).trans ((hc 2 (by decide)).trans (congrArg some c2))
          have h3 := (hx.cells.1 b _ hbl).trans ((hc 3 (by decide)).trans (congrArg some c3))
          have h4 := (hx.cells.1 b _ hbl).trans ((hc 4 (by decide)).trans (congrArg some c4))
          have hst : smallL (ts.drop k) q d = (smallO ts[k] q d).bind fun q' => smallL (ts.drop (k + 1)) q' d := by
            rw [List.drop_eq_getElem_cons hlt, smallL]
          have HI := Lib.hid (fun w' hw => IH.out q (by omega) ts[k] w' _ (Rd.ext hw (ca ▸ hrd)))
          have Hst := Lib.hid hst
          have Hx := Lib.hid hx
          clear hst hx hc hrd hl c0 c1 c2 c3 c4 ca
          simp only [Nat.add_zero] at h0
          cases ho : smallO ts[k] q d with
          | none =>
            have Ho := Lib.hid ho; clear ho
            go_wp2_with (with_reducible refine (HI.out _ (Ext.trans Hx.out (by with_reducible repeat (first | exact Ext.refl _ | assumption | apply Ext.drewN | apply Ext.drew | apply Ext.alloc | (refine Ext.setCell ?_ (by simp <;> omega) _) | (refine Ext.trans ?_ (by assumption)))))).mono ?_; rintro e' w1 ⟨rfl, hb⟩; rw [Ho.out]; simp only [smallV])
            go_ret2
            refine ⟨?_, Ext.trans Hx.out (by with_reducible repeat (first | exact Ext.refl _ | assumption | apply Ext.drewN | apply Ext.drew | apply Ext.alloc | (refine Ext.setCell ?_ (by simp <;> omega) _) | (refine Ext.trans ?_ (by assumption))))⟩
            have h1 := Hi.out
            rw [Hst.out, Ho.out] at h1
            rw [← h1]
            rfl
          | some q' =>
            have hq' := smallO_le ho
            have Ho := Lib.hid ho; clear ho
            go_wp2_with (with_reducible refine (HI.out _ (Ext.trans Hx.out (by with_reducible repeat (first | exact Ext.refl _ | assumption | apply Ext.drewN | apply Ext.drew | apply Ext.alloc | (refine Ext.setCell ?_ (by simp <;> omega) _) | (refine Ext.trans ?_ (by assumption)))))).mono ?_; rintro e' w1 ⟨rfl, hb⟩; rw [Ho.out]; simp only [smallV])
            go_roundw
            case rel =>
              refine ⟨k + 1, q', by omega, by omega, by go_num, rfl, ?_, Ext.trans Hx.out (by with_reducible repeat (first | exact Ext.refl _ | assumption | apply Ext.drewN | apply Ext.drew | apply Ext.alloc | (refine Ext.setCell ?_ (by simp <;> omega) _) | (refine Ext.trans ?_ (by assumption))))⟩
              have h1 := Hi.out
              rw [Hst.out, Ho.out] at h1
              exact h1
            case measure => simp [intOf]; omega
      · have hkn : k = ts.length := by omega
        subst hkn
        go_wp2
        go_ret2
        refine ⟨?_, hx⟩
        have h1 := Hi.out
        rw [List.drop_length, smallL] at h1
        rw [← h1]
        rfl

end Go.Proofs.Ytgkdeknfmmgbdaa

namespace Go.Proofs.Ytgkdeknfmmgbdaa
set_option linter.unusedVariables false
set_option linter.unusedSimpArgs false
open Go.RowKit

mutual
def formedB : Ex → Bool
  | .mk op n nm ts =>
    if op.toList == [110, 117, 109] then ts.length == 0 && (nm.toList == [] && rightB n.1 n.2)
    else if op.toList == [110, 97, 109, 101] then ts.length == 0 && (!(nm.toList == []) && (n.1 == 0 && n.2 == 0))
    else !(opIx op == -1) && (ts.length == 2 && (nm.toList == [] && ((n.1 == 0 && n.2 == 0) && formedL ts)))
def formedL : List Ex → Bool
  | [] => true
  | t :: ts => formedB t && formedL ts
end

theorem formed_num (S : Nat → Prop) (op : ByteArray) (n : Int × Int) (nm : ByteArray) (ts : List Ex) (h : (op.toList == [110, 117, 109]) = true) (w : World) (v : Value) (hv : Rd S w (.mk op n nm ts) v) :
    Calls Try.prog 69 #[v] w fun e w' => e = .returned (.bool (ts.length == 0 && (nm.toList == [] && rightB n.1 n.2))) ∧ Ext w w' := by
  unfold Rd at hv
  obtain ⟨base, cap, rfl, hn, -, -⟩ := hv
  have HR := Lib.hid (fun w => Right_any n.1 n.2 hn.n1 hn.n2 hn.d2 w)
  clear hn
  cases h1 : (ts.length == 0)
  · have g1 : ¬ ts.length = 0 := by simpa using h1
    clear h1
    go_enter Try.func69, Try.ntmps69
    go_wp2
    go_ret
    exact ⟨by simp, (by with_reducible repeat (first | exact Ext.refl _ | assumption | apply Ext.drewN | apply Ext.drew | apply Ext.alloc | (refine Ext.setCell ?_ (by simp <;> omega) _) | (refine Ext.trans ?_ (by assumption))))⟩
  · have g1 : ts.length = 0 := by simpa using h1
    rw [g1]
    clear h1
    cases h2 : (nm.toList == [])
    · go_enter Try.func69, Try.ntmps69
      go_wp2
      go_ret
      exact ⟨by simp, (by with_reducible repeat (first | exact Ext.refl _ | assumption | apply Ext.drewN | apply Ext.drew | apply Ext.alloc | (refine Ext.setCell ?_ (by simp <;> omega) _) | (refine Ext.trans ?_ (by assumption))))⟩
    · go_enter Try.func69, Try.ntmps69
      go_wp2_with (go_at_call 87; (with_reducible refine (HR.out _).mono ?_); rintro e w1 ⟨rfl, hb⟩)
      go_ret
      exact ⟨by simp, (by with_reducible repeat (first | exact Ext.refl _ | assumption | apply Ext.drewN | apply Ext.drew | apply Ext.alloc | (refine Ext.setCell ?_ (by simp <;> omega) _) | (refine Ext.trans ?_ (by assumption))))⟩

theorem formed_name (S : Nat → Prop) (op : ByteArray) (n : Int × Int) (nm : ByteArray) (ts : List Ex) (h0 : (op.toList == [110, 117, 109]) = false) (h : (op.toList == [110, 97, 109, 101]) = true) (w : World) (v : Value) (hv : Rd S w (.mk op n nm ts) v) :
    Calls Try.prog 69 #[v] w fun e w' => e = .returned (.bool (ts.length == 0 && (!(nm.toList == []) && (n.1 == 0 && n.2 == 0)))) ∧ Ext w w' := by
  unfold Rd at hv
  obtain ⟨base, cap, rfl, -, -, -⟩ := hv
  cases h1 : (ts.length == 0)
  · have g1 : ¬ ts.length = 0 := by simpa using h1
    clear h1
    go_enter Try.func69, Try.ntmps69
    go_wp2
    go_ret
    exact ⟨by simp, (by with_reducible repeat (first | exact Ext.refl _ | assumption | apply Ext.drewN | apply Ext.drew | apply Ext.alloc | (refine Ext.setCell ?_ (by simp <;> omega) _) | (refine Ext.trans ?_ (by assumption))))⟩
  · have g1 : ts.length = 0 := by simpa using h1
    rw [g1]
    clear h1
    cases h2 : (nm.toList == [])
    · go_enter Try.func69, Try.ntmps69
      go_wp2
      all_goals go_ret
      all_goals exact ⟨by simp [*], (by with_reducible repeat (first | exact Ext.refl _ | assumption | apply Ext.drewN | apply Ext.drew | apply Ext.alloc | (refine Ext.setCell ?_ (by simp <;> omega) _) | (refine Ext.trans ?_ (by assumption))))⟩
    · go_enter Try.func69, Try.ntmps69
      go_wp2
      go_ret
      exact ⟨by simp, (by with_reducible repeat (first | exact Ext.refl _ | assumption | apply Ext.drewN | apply Ext.drew | apply Ext.alloc | (refine Ext.setCell ?_ (by simp <;> omega) _) | (refine Ext.trans ?_ (by assumption))))⟩

theorem formed_none (S : Nat → Prop) (op : ByteArray) (n : Int × Int) (nm : ByteArray) (ts : List Ex) (h0 : (op.toList == [110, 117, 109]) = false) (h : (op.toList == [110, 97, 109, 101]) = false) (hi : opIx op = -1) (w : World) (v : Value) (hv : Rd S w (.mk op n nm ts) v) :
    Calls Try.prog 69 #[v] w fun e w' => e = .returned (.bool false) ∧ Ext w w' := by
  unfold Rd at hv
  obtain ⟨base, cap, rfl, -, -, -⟩ := hv
  have HF := Lib.hid (find_any op)
  rw [hi] at HF
  simp only [findV, if_true] at HF
  go_enter Try.func69, Try.ntmps69
  go_wp2_with (go_at_call 73; (with_reducible refine (HF.out _).mono ?_); rintro e w1 ⟨rfl, hb⟩; obtain ⟨hc, hf⟩ := hb.cells)
  go_ret
  exact ⟨rfl, (by with_reducible repeat (first | exact Ext.refl _ | assumption | apply Ext.drewN | apply Ext.drew | apply Ext.alloc | (refine Ext.setCell ?_ (by simp <;> omega) _) | (refine Ext.trans ?_ (by assumption))))⟩

theorem find_some (op : ByteArray) (hi : ¬ opIx op = -1) (w : World) : Calls Try.prog 73 #[.string op] w fun e w' => e = .returned (.tuple #[.agg #[.string (opNm (opIx op).toNat), .func (.func (opFn (opIx op).toNat)) #[] #[]], .bool true]) ∧ Ext w w' := by
  have h := find_any op w
  rw [findV, if_neg hi] at h
  exact h

set_option maxRecDepth 100000 in
set_option maxHeartbeats 1000000 in
theorem formed_op1 (S : Nat → Prop) (op : ByteArray) (n : Int × Int) (nm : ByteArray) (ts : List Ex) (h0 : (op.toList == [110, 117, 109]) = false) (h : (op.toList == [110, 97, 109, 101]) = false) (hi : ¬ opIx op = -1)
    (h1 : ¬ ts.length = 2 ∨ (ts.length = 2 ∧ (nm.toList == []) = false) ∨ (ts.length = 2 ∧ (nm.toList == []) = true ∧ (n.1 == 0 && n.2 == 0) = false)) (w : World) (v : Value) (hv : Rd S w (.mk op n nm ts) v) :
    Calls Try.prog 69 #[v] w fun e w' => e = .returned (.bool false) ∧ Ext w w' := by
  unfold Rd at hv
  obtain ⟨base, cap, rfl, -, -, -⟩ := hv
  have HF := Lib.hid (find_some op hi)
  clear hi
  generalize ts.length = m at *
  rcases h1 with h1 | ⟨rfl, h2⟩ | ⟨rfl, h2, h3⟩
  · have h1' : ¬ (m : Int) = 2 := by omega
    go_enter Try.func69, Try.ntmps69
    go_wp2_with (go_at_call 73; (with_reducible refine (HF.out _).mono ?_); rintro e w1 ⟨rfl, hb⟩; obtain ⟨hc, hf⟩ := hb.cells; have hz := hb.size; simp at hz; have z1 : w.heap.size < w1.heap.size := (by omega))
    go_ret
    exact ⟨rfl, (by with_reducible repeat (first | exact Ext.refl _ | assumption | apply Ext.drewN | apply Ext.drew | apply Ext.alloc | (refine Ext.setCell ?_ (by simp <;> omega) _) | (refine Ext.trans ?_ (by assumption))))⟩
  · go_enter Try.func69, Try.ntmps69
    go_wp2_with (go_at_call 73; (with_reducible refine (HF.out _).mono ?_); rintro e w1 ⟨rfl, hb⟩; obtain ⟨hc, hf⟩ := hb.cells; have hz := hb.size; simp at hz; have z1 : w.heap.size < w1.heap.size := (by omega))
    go_ret
    exact ⟨rfl, (by with_reducible repeat (first | exact Ext.refl _ | assumption | apply Ext.drewN | apply Ext.drew | apply Ext.alloc | (refine Ext.setCell ?_ (by simp <;> omega) _) | (refine Ext.trans ?_ (by assumption))))⟩
  · go_enter Try.func69, Try.ntmps69
    go_wp2_with (go_at_call 73; (with_reducible refine (HF.out _).mono ?_); rintro e w1 ⟨rfl, hb⟩; obtain ⟨hc, hf⟩ := hb.cells; have hz := hb.size; simp at hz; have z1 : w.heap.size < w1.heap.size := (by omega))
    all_goals first | (go_ret; exact ⟨rfl, (by with_reducible repeat (first | exact Ext.refl _ | assumption | apply Ext.drewN | apply Ext.drew | apply Ext.alloc | (refine Ext.setCell ?_ (by simp <;> omega) _) | (refine Ext.trans ?_ (by assumption))))⟩) | (exfalso; simp_all)

set_option maxRecDepth 100000 in
set_option maxHeartbeats 1000000 in
theorem formed_op2 (S : Nat → Prop) (op : ByteArray) (nm : ByteArray) (ta tb : Ex) (h0 : (op.toList == [110, 117, 109]) = false) (h : (op.toList == [110, 97, 109, 101]) = false) (hi : ¬ opIx op = -1)
    (h2 : (nm.toList == []) = true) (w : World) (v : Value) (hv : Rd S w (.mk op (0, 0) nm [ta, tb]) v)
    (ia : ∀ (w : World) (v : Value), Rd S w ta v → Calls Try.prog 69 #[v] w fun e w' => e = .returned (.bool (formedB ta)) ∧ Ext w w')
    (ib : ∀ (w : World) (v : Value), Rd S w tb v → Calls Try.prog 69 #[v] w fun e w' => e = .returned (.bool (formedB tb)) ∧ Ext w w') :
    Calls Try.prog 69 #[v] w fun e w' => e = .returned (.bool (formedB ta && formedB tb)) ∧ Ext w w' := by
  unfold Rd at hv
  obtain ⟨base, cap, rfl, -, -, hr⟩ := hv
  rcases hr with hr | ⟨b, rfl, hs, hl⟩
  · cases hr
  obtain ⟨c, hc, hra⟩ := hl.get 0 (by simp)
  obtain ⟨d, hd, hrb⟩ := hl.get 1 (by simp)
  obtain ⟨oa, a1, a2, na, ba, la, ca, c0, c1, c2, c3, c4, ea⟩ := hra.shape
  obtain ⟨ob, b1, b2, nb, bb, lb, cb, d0, d1, d2, d3, d4, eb⟩ := hrb.shape
  simp only [List.getElem_cons_zero, List.getElem_cons_succ] at hra hrb
  rw [ea] at hra
  rw [eb] at hrb
  have hbl : b < w.heap.size := World.block_lt_of_cell? w _ (hc 0 (by decide))
  have k0 := (hc 0 (by decide)).trans (congrArg some c0)
  have k1 := (hc 1 (by decide)).trans (congrArg some c1)
  have k2 := (hc 2 (by decide)).trans (congrArg some c2)
  have k3 := (hc 3 (by decide)).trans (congrArg some c3)
  have k4 := (hc 4 (by decide)).trans (congrArg some c4)
  have k5 := (hd 0 (by decide)).trans (congrArg some d0)
  have k6 := (hd 1 (by decide)).trans (congrArg some d1)
  have k7 := (hd 2 (by decide)).trans (congrArg some d2)
  have k8 := (hd 3 (by decide)).trans (congrArg some d3)
  have k9 := (hd 4 (by decide)).trans (congrArg some d4)
  simp only [Nat.zero_add, Nat.zero_mul, Nat.add_zero, Nat.one_mul, Nat.reduceAdd] at k0 k1 k2 k3 k4 k5 k6 k7 k8 k9
  have IA := Lib.hid (fun w' hw => ia w' _ (Rd.ext hw hra))
  have IB := Lib.hid (fun w' hw => ib w' _ (Rd.ext hw hrb))
  have HF := Lib.hid (find_some op hi)
  clear hi hc hd c0 c1 c2 c3 c4 d0 d1 d2 d3 d4 ea eb hra hrb hl ia ib
  have g1 : b < w.heap.size + 1 := by omega
  cases hx : formedB ta
  · rw [hx] at IA
    clear hx
    go_enter Try.func69, Try.ntmps69
    go_wp2_with (first 
      | (go_at_call 73; (with_reducible refine (HF.out _).mono ?_); rintro e w1 ⟨rfl, hb⟩; obtain ⟨hc, hf⟩ := hb.cells; have hz := hb.size; simp at hz; have z1 : w.heap.size < w1.heap.size := (by omega); have z2 : b < w1.heap.size := (by omega))
      | (go_at_call 69; (with_reducible refine (IA.out _ (by with_reducible repeat (first | exact Ext.refl _ | assumption | apply Ext.drewN | apply Ext.drew | apply Ext.alloc | (refine Ext.setCell ?_ (by simp <;> omega) _) | (refine Ext.trans ?_ (by assumption))))).mono ?_); rintro e w2 ⟨rfl, hb2⟩))
    go_ret
    exact ⟨rfl, (by with_reducible repeat (first | exact Ext.refl _ | assumption | apply Ext.drewN | apply Ext.drew | apply Ext.alloc | (refine Ext.setCell ?_ (by simp <;> omega) _) | (refine Ext.trans ?_ (by assumption))))⟩
  · rw [hx] at IA
    clear hx
    go_enter Try.func69, Try.ntmps69
    go_wp2_with (first 
      | (go_at_call 73; (with_reducible refine (HF.out _).mono ?_); rintro e w1 ⟨rfl, hb⟩; obtain ⟨hc, hf⟩ := hb.cells; have hz := hb.size; simp at hz; have z1 : w.heap.size < w1.heap.size := (by omega); have z2 : b < w1.heap.size := (by omega))
      | (go_at_call 69; (with_reducible refine (IA.out _ (by with_reducible repeat (first | exact Ext.refl _ | assumption | apply Ext.drewN | apply Ext.drew | apply Ext.alloc | (refine Ext.setCell ?_ (by simp <;> omega) _) | (refine Ext.trans ?_ (by assumption))))).mono ?_); rintro e w2 ⟨rfl, hb2⟩; obtain ⟨hc2, hf2⟩ := hb2.cells; have z3 : w.heap.size < w1.heap.size + 1 := (by omega); have z4 : b < w1.heap.size + 1 := (by omega))
      | (go_at_call 69; (with_reducible refine (IB.out _ (by with_reducible repeat (first | exact Ext.refl _ | assumption | apply Ext.drewN | apply Ext.drew | apply Ext.alloc | (refine Ext.setCell ?_ (by simp <;> omega) _) | (refine Ext.trans ?_ (by assumption))))).mono ?_); rintro e w3 ⟨rfl, hb3⟩))
    go_ret
    exact ⟨by simp, (by with_reducible repeat (first | exact Ext.refl _ | assumption | apply Ext.drewN | apply Ext.drew | apply Ext.alloc | (refine Ext.setCell ?_ (by simp <;> omega) _) | (refine Ext.trans ?_ (by assumption))))⟩

theorem formed_any (S : Nat → Prop) : ∀ (d : Nat) (t : Ex) (_ : t.depth ≤ d) (w : World) (v : Value) (_ : Rd S w t v),
    Calls Try.prog 69 #[v] w fun e w' => e = .returned (.bool (formedB t)) ∧ Ext w w'
  | 0, .mk op n nm ts, hd, w, v, hv => by rw [Ex.depth] at hd; omega
  | d + 1, .mk op n nm ts, hd, w, v, hv => by
    rw [formedB]
    cases h0 : (op.toList == [110, 117, 109])
    · cases h : (op.toList == [110, 97, 109, 101])
      · simp only [Bool.false_eq_true, if_false]
        by_cases hi : opIx op = -1
        · rw [hi]
          exact formed_none S op n nm ts h0 h hi w v hv
        · rw [show (opIx op == -1) = false by simpa using hi]
          by_cases h2 : ts.length = 2
          · cases h3 : (nm.toList == [])
            · rw [show (!false && (ts.length == 2 && (false && ((n.1 == 0 && n.2 == 0) && formedL ts)))) = false by simp]
              exact formed_op1 S op n nm ts h0 h hi (.inr (.inl ⟨h2, h3⟩)) w v hv
            · cases h4 : (n.1 == 0 && n.2 == 0)
              · rw [show (!false && (ts.length == 2 && (true && (false && formedL ts)))) = false by simp]
                exact formed_op1 S op n nm ts h0 h hi (.inr (.inr ⟨h2, h3, h4⟩)) w v hv
              · match ts, h2, hv, hd with
                | [ta, tb], _, hv, hd =>
                  have hn : n = (0, 0) := by
                    obtain ⟨n1, n2⟩ := n
                    simp at h4
                    rw [h4.1, h4.2]
                  subst hn
                  rw [Ex.depth, Ex.depthL, Ex.depthL, Ex.depthL] at hd
                  rw [show (!false && ([ta, tb].length == 2 && (true && (true && formedL [ta, tb])))) = (formedB ta && formedB tb) by simp [formedL]]
                  exact formed_op2 S op nm ta tb h0 h hi h3 w v hv (fun w v hv => formed_any S d ta (by omega) w v hv) (fun w v hv => formed_any S d tb (by omega) w v hv)
          · rw [show (!false && (ts.length == 2 && (nm.toList == [] && ((n.1 == 0 && n.2 == 0) && formedL ts)))) = false by simp [h2]]
            exact formed_op1 S op n nm ts h0 h hi (.inl h2) w v hv
      · simp only [Bool.false_eq_true, if_false, if_true]
        exact formed_name S op n nm ts h0 h w v hv
    · simp only [if_true]
      exact formed_num S op n nm ts h0 w v hv

/-- The error of a formula that is not right. -/
def wrongI (t : Ex) : Int := if t.parts ≤ 60 ∧ t.depth ≤ 12 then (if formedB t then 0 else 1) else 2

theorem wrong_any (S : Nat → Prop) (t : Ex) (w : World) (v : Value) (hv : Rd S w t v) :
    Calls Try.prog 43 #[v] w fun e w' => e = .returned (.int .i64 (wrongI t)) ∧ Ext w w' := by
  have HS := Lib.hid (show ∀ w', Ext w w' → Calls Try.prog 68 #[v, .int .i64 60, .int .i64 12] w' fun e w'' => e = .returned (smallV (smallO t 60 12)) ∧ Ext w' w'' from fun w' hw => small_any S 12 60 (by decide) (by decide) t w' v (Rd.ext hw hv))
  have hF : t.depth ≤ 12 → ∀ (w' : World), Ext w w' → Calls Try.prog 69 #[v] w' fun e w'' => e = .returned (.bool (formedB t)) ∧ Ext w' w'' := fun h w' hw => formed_any S 12 t h w' v (Rd.ext hw hv)
  have hsh : ∃ op n1 n2 nm base len cap, v = .agg #[.string op, .int .i64 n1, .int .i64 n2, .string nm, .slice base len cap] := by
    obtain ⟨op, n, nm, ts⟩ := t
    unfold Rd at hv
    obtain ⟨base, cap, hv, -⟩ := hv
    exact ⟨_, _, _, _, _, _, _, hv⟩
  obtain ⟨op, n1, n2, nm, base, len, cap, rfl⟩ := hsh
  clear hv
  unfold wrongI
  rw [smallO_eq] at HS
  by_cases h : t.parts ≤ 60 ∧ t.depth ≤ 12
  · rw [if_pos h]
    rw [if_pos h] at HS
    have HF := Lib.hid (hF h.2)
    clear hF h
    cases hx : formedB t
    · rw [hx] at HF
      clear hx
      go_enter Try.func43, Try.ntmps43
      go_wp2_with (first
        | (go_at_call 68; (with_reducible refine (HS.out _ (by with_reducible repeat (first | exact Ext.refl _ | assumption | apply Ext.drewN | apply Ext.drew | apply Ext.alloc | (refine Ext.setCell ?_ (by simp <;> omega) _) | (refine Ext.trans ?_ (by assumption))))).mono ?_); rintro e w1 ⟨rfl, hb⟩; obtain ⟨hc, hf⟩ := hb.cells; simp only [smallV])
        | (go_at_call 69; (with_reducible refine (HF.out _ (by with_reducible repeat (first | exact Ext.refl _ | assumption | apply Ext.drewN | apply Ext.drew | apply Ext.alloc | (refine Ext.setCell ?_ (by simp <;> omega) _) | (refine Ext.trans ?_ (by assumption))))).mono ?_); rintro e w2 ⟨rfl, hb2⟩))
      go_ret
      exact ⟨rfl, (by with_reducible repeat (first | exact Ext.refl _ | assumption | apply Ext.drewN | apply Ext.drew | apply Ext.alloc | (refine Ext.setCell ?_ (by simp <;> omega) _) | (refine Ext.trans ?_ (by assumption))))⟩
    · rw [hx] at HF
      clear hx
      go_enter Try.func43, Try.ntmps43
      go_wp2_with (first
        | (go_at_call 68; (with_reducible refine (HS.out _ (by with_reducible repeat (first | exact Ext.refl _ | assumption | apply Ext.drewN | apply Ext.drew | apply Ext.alloc | (refine Ext.setCell ?_ (by simp <;> omega) _) | (refine Ext.trans ?_ (by assumption))))).mono ?_); rintro e w1 ⟨rfl, hb⟩; obtain ⟨hc, hf⟩ := hb.cells; simp only [smallV])
        | (go_at_call 69; (with_reducible refine (HF.out _ (by with_reducible repeat (first | exact Ext.refl _ | assumption | apply Ext.drewN | apply Ext.drew | apply Ext.alloc | (refine Ext.setCell ?_ (by simp <;> omega) _) | (refine Ext.trans ?_ (by assumption))))).mono ?_); rintro e w2 ⟨rfl, hb2⟩))
      go_ret
      exact ⟨rfl, (by with_reducible repeat (first | exact Ext.refl _ | assumption | apply Ext.drewN | apply Ext.drew | apply Ext.alloc | (refine Ext.setCell ?_ (by simp <;> omega) _) | (refine Ext.trans ?_ (by assumption))))⟩
  · rw [if_neg h]
    rw [if_neg h] at HS
    clear hF h
    go_enter Try.func43, Try.ntmps43
    go_wp2_with (go_at_call 68; (with_reducible refine (HS.out _ (by with_reducible repeat (first | exact Ext.refl _ | assumption | apply Ext.drewN | apply Ext.drew | apply Ext.alloc | (refine Ext.setCell ?_ (by simp <;> omega) _) | (refine Ext.trans ?_ (by assumption))))).mono ?_); rintro e w1 ⟨rfl, hb⟩; obtain ⟨hc, hf⟩ := hb.cells; simp only [smallV])
    go_ret
    exact ⟨rfl, (by with_reducible repeat (first | exact Ext.refl _ | assumption | apply Ext.drewN | apply Ext.drew | apply Ext.alloc | (refine Ext.setCell ?_ (by simp <;> omega) _) | (refine Ext.trans ?_ (by assumption))))⟩

end Go.Proofs.Ytgkdeknfmmgbdaa

namespace Go.Proofs.Ytgkdeknfmmgbdaa
set_option linter.unusedVariables false
set_option linter.unusedSimpArgs false
open Go.RowKit

theorem ratS_I2 (neg : Bool) (n d : Int) (h1 : 0 ≤ n) (h2 : 0 ≤ d) : I2 (ratS neg n d).1 := by
  unfold ratS
  split
  · exact ⟨by decide, by decide, by decide, by decide⟩
  · rename_i h
    cases neg <;> simp only [Bool.false_eq_true, if_false, if_true, and_true, and_false, or_false, false_or, not_or] at h ⊢
    · exact ⟨by show -9223372036854775808 ≤ n; omega, by show n ≤ 9223372036854775807; omega, by show -9223372036854775808 ≤ d; omega, by show d ≤ 9223372036854775807; omega⟩
    · exact ⟨by show -9223372036854775808 ≤ -n; omega, by show -n ≤ 9223372036854775807; omega, by show -9223372036854775808 ≤ d; omega, by show d ≤ 9223372036854775807; omega⟩

theorem div_nn {a b : Int} (h : 0 ≤ a) (h2 : 0 ≤ b) : 0 ≤ a / b := Int.ediv_nonneg h h2
theorem gcd_nn (a b : Int) : (0 : Int) ≤ (Int.gcd a b : Int) := Int.natCast_nonneg _

theorem sumS_I2 (xn : Bool) (n1 d1 : Int) (yn : Bool) (n2 d2 : Int) (h : SumOk n1 d1 n2 d2) : I2 (sumS xn n1 d1 yn n2 d2).1 := by
  unfold sumS
  simp only
  split
  · exact ⟨by decide, by decide, by decide, by decide⟩
  · obtain ⟨⟨a0, _⟩, ⟨b0, _⟩, ⟨c0, _⟩, ⟨e0, _⟩⟩ := h
    have ha := Int.mul_nonneg a0 (div_nn (a := d2) (by omega) (gcd_nn d1 d2))
    have hb := Int.mul_nonneg b0 (div_nn (a := d1) (by omega) (gcd_nn d1 d2))
    have ht : 0 ≤ (sumTop xn n1 d1 yn n2 d2).2 := by
      unfold sumTop
      simp only
      split
      · show (0 : Int) ≤ _ + _; omega
      · split
        · show (0 : Int) ≤ _ - _; omega
        · show (0 : Int) ≤ _ - _; omega
    exact ratS_I2 _ _ _ (div_nn ht (gcd_nn _ _)) (Int.mul_nonneg (div_nn (by omega) (gcd_nn _ _)) (div_nn (by omega) (gcd_nn _ _)))

theorem timesS_I2 (xn : Bool) (n1 d1 : Int) (yn : Bool) (n2 d2 : Int) (h1 : 0 ≤ n1) (h2 : 0 ≤ d1) (h3 : 0 ≤ n2) (h4 : 0 ≤ d2) : I2 (timesS xn n1 d1 yn n2 d2).1 := by
  unfold timesS
  split
  · exact ⟨by decide, by decide, by decide, by decide⟩
  · exact ratS_I2 _ _ _ (Int.mul_nonneg (div_nn h1 (gcd_nn _ _)) (div_nn h3 (gcd_nn _ _))) (Int.mul_nonneg (div_nn h2 (gcd_nn _ _)) (div_nn h4 (gcd_nn _ _)))

theorem doI_I2 (i : Nat) (a b : Int × Int) (ha : I2 a) (hb : I2 b) : I2 (doI i a b).1 := by
  have z : I2 ((0 : Int), (1 : Int)) := ⟨by decide, by decide, by decide, by decide⟩
  have sz : ∀ n : Int, 0 ≤ sizeZ n := fun n => by unfold sizeZ; split <;> omega
  match i with
  | 0 =>
    show I2 (addI a b).1
    unfold addI
    split
    · exact sumS_I2 _ _ _ _ _ _ (sumOk_of ha hb (by assumption))
    · exact z
  | 1 =>
    show I2 (subI a b).1
    unfold subI
    split
    · exact sumS_I2 _ _ _ _ _ _ (sumOk_of ha hb (by assumption))
    · exact z
  | 2 =>
    show I2 (mulI a b).1
    unfold mulI
    split
    · exact timesS_I2 _ _ _ _ _ _ (sz _) (sz _) (sz _) (sz _)
    · exact z
  | 3 =>
    show I2 (quoI a b).1
    unfold quoI
    split
    · split
      · exact z
      · exact timesS_I2 _ _ _ _ _ _ (sz _) (sz _) (sz _) (sz _)
    · exact z
  | 4 =>
    show I2 (minI a b).1
    unfold minI
    simp only
    split <;> assumption
  | _ + 5 =>
    show I2 (maxI a b).1
    unfold maxI
    simp only
    split <;> assumption

theorem applyI_I2 (i : Nat) (a b : Int × Int) (ha : I2 a) (hb : I2 b) : I2 (applyI i a b).1 := by
  have z : I2 ((0 : Int), (0 : Int)) := ⟨by decide, by decide, by decide, by decide⟩
  unfold applyI
  split
  · exact z
  · split
    · exact doI_I2 i a b ha hb
    · exact z

/-- The values that names have. -/
abbrev Vals := List (ByteArray × Int)
def look : Vals → ByteArray → Option Int
  | [], _ => none
  | x :: l, nm => if x.1.toList == nm.toList then some x.2 else look l nm

def appE (p : (Int × Int) × Int) : Except Int (Int × Int) := if p.2 = 0 then .ok p.1 else .error p.2
mutual
def valueE (vs : Vals) : Ex → Except Int (Int × Int)
  | .mk op n nm ts =>
    if op.toList == [110, 117, 109] then .ok n
    else if op.toList == [110, 97, 109, 101] then (match look vs nm with | some k => .ok (k, 1) | none => .error 13)
    else match valueL vs ts with
      | [a, b] => match a with
        | .error f => .error f
        | .ok x => match b with
          | .error f => .error f
          | .ok y => appE (applyI (opIx op).toNat x y)
      | _ => .error 0
def valueL (vs : Vals) : List Ex → List (Except Int (Int × Int))
  | [] => []
  | t :: ts => valueE vs t :: valueL vs ts
end

def VR (vs : Vals) : Prop := ∀ x ∈ vs, -9223372036854775808 ≤ x.2 ∧ x.2 ≤ 9223372036854775807
theorem look_range {vs : Vals} (h : VR vs) {nm : ByteArray} {k : Int} (hk : look vs nm = some k) : -9223372036854775808 ≤ k ∧ k ≤ 9223372036854775807 := by
  induction vs with
  | nil => cases hk
  | cons x l ih =>
    rw [look] at hk
    split at hk
    · injection hk with hk
      rw [← hk]
      exact h x List.mem_cons_self
    · exact ih (fun y hy => h y (List.mem_cons_of_mem _ hy)) hk

/-- The slice value sl, in the world w, holds the values vs. -/
def VRd (S : Nat → Prop) (w : World) (vs : Vals) (sl : Value) : Prop :=
  ∃ base cap, sl = .slice base vs.length cap ∧ vs.length ≤ 1000000 ∧ VR vs ∧ (vs = [] ∨ ∃ b, base = some ⟨b, 0, none⟩ ∧ S b ∧ ∀ k (h : k < vs.length), w.cell? ⟨b, k * 2, none⟩ = some (.string vs[k].1) ∧ w.cell? ⟨b, k * 2 + 1, none⟩ = some (.int .i64 vs[k].2))

theorem VRd.frame {S S' : Nat → Prop} {w w' : World} (h : ∀ b o, S b → b < w.heap.size → w'.cell? ⟨b, o, none⟩ = w.cell? ⟨b, o, none⟩) (hS : ∀ b, S b → S' b) {vs : Vals} {sl : Value} (r : VRd S w vs sl) : VRd S' w' vs sl := by
  obtain ⟨base, cap, h1, h2, h3, h4⟩ := r
  refine ⟨base, cap, h1, h2, h3, h4.imp id fun ⟨b, hb, hs, hc⟩ => ⟨b, hb, hS b hs, fun k hk => ?_⟩⟩
  have hbl := World.block_lt_of_cell? w _ (hc k hk).1
  exact ⟨(h b _ hs hbl).trans (hc k hk).1, (h b _ hs hbl).trans (hc k hk).2⟩
theorem VRd.ext {S : Nat → Prop} {w w' : World} (e : Ext w w') {vs : Vals} {sl : Value} (r : VRd S w vs sl) : VRd S w' vs sl := r.frame (fun b o _ hb => e.cells.1 b o hb) (fun _ h => h)

/-- The first place of a name. -/
theorem idx_look (vs : Vals) (nm : ByteArray) : ∀ f, f ≤ vs.length →
    (idxFrom (fun k => if h : k < vs.length then vs[k].1.toList == nm.toList else false) vs.length f = -1 ∧ look (vs.drop (vs.length - f)) nm = none) ∨
    ∃ k, ∃ h : k < vs.length, idxFrom (fun k => if h : k < vs.length then vs[k].1.toList == nm.toList else false) vs.length f = (k : Int) ∧ look (vs.drop (vs.length - f)) nm = some vs[k].2
  | 0, _ => .inl ⟨rfl, by rw [Nat.sub_zero, List.drop_length]; rfl⟩
  | f + 1, hf => by
    have hlt : vs.length - (f + 1) < vs.length := Nat.sub_lt (by omega) (by omega)
    have hst : vs.length - (f + 1) + 1 = vs.length - f := by omega
    have hf' : f ≤ vs.length := by omega
    rw [idxFrom, List.drop_eq_getElem_cons hlt, look, dif_pos hlt]
    split
    · exact .inr ⟨_, hlt, rfl, rfl⟩
    · rw [hst]
      exact idx_look vs nm f hf'

end Go.Proofs.Ytgkdeknfmmgbdaa

namespace Go.Proofs.Ytgkdeknfmmgbdaa
set_option linter.unusedVariables false
set_option linter.unusedSimpArgs false
open Go.RowKit

theorem same71 (s nm : ByteArray) (g : Value) (q : Nat) (w : World) (h : w.cell? ⟨q, 3, none⟩ = some (.string nm)) :
    Calls Try.prog 71 #[.agg #[.string s, g], .pointer (some ⟨q, 0, none⟩)] w fun e w' => e = .returned (.bool (s.toList == nm.toList)) ∧ Ext w w' := by
  have hpl : q < w.heap.size := World.block_lt_of_cell? w _ h
  go_enter Try.func71, Try.ntmps71
  go_wp2
  go_ret
  exact ⟨rfl, (by with_reducible repeat (first | exact Ext.refl _ | assumption | apply Ext.drewN | apply Ext.drew | apply Ext.alloc | (refine Ext.setCell ?_ (by simp <;> omega) _) | (refine Ext.trans ?_ (by assumption))))⟩
theorem enters71 (args : Array Value) (w : World) : (callFunc 71 args).run Try.prog w = .ok (.enter 71 args) w := by go_simp

/-- Where a name stands. -/
def placeI (vs : Vals) (nm : ByteArray) : Int := idxZ (fun k => if h : k < vs.length then vs[k].1.toList == nm.toList else false) vs.length

theorem place_any (S : Nat → Prop) (vs : Vals) (nm : ByteArray) (w : World) (sl : Value) (hs : VRd S w vs sl) (q : Nat) (hq : w.cell? ⟨q, 3, none⟩ = some (.string nm)) :
    Calls Try.prog 70 #[sl, .func (.func 71) #[] #[.pointer (some ⟨q, 0, none⟩)]] w fun e w' => e = .returned (.int .i64 (placeI vs nm)) ∧ Ext w w' := by
  obtain ⟨base, cap, rfl, hn, -, hr⟩ := hs
  have hql : q < w.heap.size := World.block_lt_of_cell? w _ hq
  rcases hr with rfl | ⟨b, rfl, -, hc⟩
  · exact index70_nil base cap _ w
  · refine index70 b 0 vs.length cap hn 71 _ (fun k j => if h : k < vs.length then (if j = 0 then .string vs[k].1 else .int .i64 vs[k].2) else undef) _ w ?_ ?_ ?_ enters71
    · intro k hk
      rw [Nat.zero_add, (hc k hk).1]
      simp [hk]
    · intro k hk
      rw [Nat.zero_add, (hc k hk).2]
      simp [hk]
    · intro k w' hk hx
      simp only [hk, dif_pos, if_true]
      exact same71 vs[k].1 nm _ q w' ((hx.cells.1 q 3 hql).trans hq)

theorem place_none {vs : Vals} {nm : ByteArray} (h : look vs nm = none) : placeI vs nm = -1 := by
  rcases idx_look vs nm vs.length (Nat.le_refl _) with ⟨h1, _⟩ | ⟨k, hk, _, h2⟩
  · exact h1
  · rw [Nat.sub_self, List.drop_zero, h] at h2; cases h2
theorem place_some {vs : Vals} {nm : ByteArray} {n : Int} (h : look vs nm = some n) : ∃ k, ∃ hk : k < vs.length, placeI vs nm = (k : Int) ∧ vs[k].2 = n := by
  rcases idx_look vs nm vs.length (Nat.le_refl _) with ⟨_, h2⟩ | ⟨k, hk, h1, h2⟩
  · rw [Nat.sub_self, List.drop_zero, h] at h2; cases h2
  · rw [Nat.sub_self, List.drop_zero, h] at h2
    injection h2 with h2
    exact ⟨k, hk, h1, h2.symm⟩

def endE : Except Int (Int × Int) → Ending
  | .ok x => .returned (rv x)
  | .error f => .panicked [{ v := .iface 91 (.agg #[.int .i64 f]), recovered := false }]

theorem value_num (S : Nat → Prop) (op : ByteArray) (n : Int × Int) (nm : ByteArray) (ts : List Ex) (h : (op.toList == [110, 117, 109]) = true) (w : World) (v sl : Value) (hv : Rd S w (.mk op n nm ts) v) :
    Calls Try.prog 45 #[v, sl] w fun e w' => e = .returned (rv n) ∧ Ext w w' := by
  unfold Rd at hv
  obtain ⟨base, cap, rfl, -, -, -⟩ := hv
  go_enter Try.func45, Try.ntmps45
  go_wp2
  exact bodyPost_ret (v := rv n) (by simp [results, Try.results45, go_sem]) rfl ⟨rfl, (by with_reducible repeat (first | exact Ext.refl _ | assumption | apply Ext.drewN | apply Ext.drew | apply Ext.alloc | (refine Ext.setCell ?_ (by simp <;> omega) _) | (refine Ext.trans ?_ (by assumption))))⟩

theorem value_name (S : Nat → Prop) (op : ByteArray) (n : Int × Int) (nm : ByteArray) (ts : List Ex) (h0 : (op.toList == [110, 117, 109]) = false) (h : (op.toList == [110, 97, 109, 101]) = true) (vs : Vals) (w : World) (v sl : Value) (hv : Rd S w (.mk op n nm ts) v) (hs : VRd S w vs sl) :
    Calls Try.prog 45 #[v, sl] w fun e w' => e = endE (match look vs nm with | some k => .ok (k, 1) | none => .error 13) ∧ Ext w w' := by
  unfold Rd at hv
  obtain ⟨base, cap, rfl, -, -, -⟩ := hv
  have hmf : ∀ (fn : Fn) (first cap : Array Value) (w : World), (Instr.makeFunc fn first cap).run Try.prog w = .ok (.func fn first cap) w := fun _ _ _ _ => rfl
  have HP := Lib.hid (fun w' (hw : Ext w w') => place_any S vs nm w' sl (hs.ext hw))
  cases hl : look vs nm with
  | none =>
    rw [place_none hl] at HP
    simp only [endE]
    clear hl
    go_enter Try.func45, Try.ntmps45
    go_wp2_with (go_at_call 70; (with_reducible refine (HP.out _ (by with_reducible repeat (first | exact Ext.refl _ | assumption | apply Ext.drewN | apply Ext.drew | apply Ext.alloc | (refine Ext.setCell ?_ (by simp <;> omega) _) | (refine Ext.trans ?_ (by assumption)))) _ ?_).mono ?_); (simp [go_sem]); rintro e w1 ⟨rfl, hb⟩; obtain ⟨hc, hf⟩ := hb.cells)
    exact ⟨rfl, rfl, (by with_reducible repeat (first | exact Ext.refl _ | assumption | apply Ext.drewN | apply Ext.drew | apply Ext.alloc | (refine Ext.setCell ?_ (by simp <;> omega) _) | (refine Ext.trans ?_ (by assumption))))⟩
  | some z =>
    obtain ⟨k, hk, hp, hz⟩ := place_some hl
    obtain ⟨base', cap', rfl, hn, -, hr⟩ := hs
    rcases hr with rfl | ⟨b, rfl, -, hc⟩
    · cases hk
    have hck := (hc k hk).2
    rw [hz] at hck
    have hbl : b < w.heap.size := World.block_lt_of_cell? w _ hck
    have hkk : k < 1000001 := by omega
    rw [hp] at HP
    have HO := Lib.hid (fun w => Of_any z w)
    simp only [endE]
    clear hl hc hp hz
    go_enter Try.func45, Try.ntmps45
    go_wp2_with (first 
      | (go_at_call 70; (with_reducible refine (HP.out _ (by with_reducible repeat (first | exact Ext.refl _ | assumption | apply Ext.drewN | apply Ext.drew | apply Ext.alloc | (refine Ext.setCell ?_ (by simp <;> omega) _) | (refine Ext.trans ?_ (by assumption)))) _ ?_).mono ?_); (simp [go_sem]); rintro e w1 ⟨rfl, hb⟩; obtain ⟨hc, hf⟩ := hb.cells; have hz := hb.size; simp at hz; have z1 : w.heap.size < w1.heap.size := (by omega); have z2 : w.heap.size + 1 < w1.heap.size := (by omega); have z3 : b < w.heap.size + 1 := (by omega); have z4 : b < w.heap.size + 1 + 1 := (by omega))
      | (go_at_call 72; (with_reducible refine (HO.out _).mono ?_); rintro e w2 ⟨rfl, hb2⟩; obtain ⟨hc2, hf2⟩ := hb2.cells))
    exact bodyPost_ret (v := rv (z, 1)) (by simp [results, Try.results45, go_sem, hc, hc2, z1, z2]) rfl ⟨rfl, (by with_reducible repeat (first | exact Ext.refl _ | assumption | apply Ext.drewN | apply Ext.drew | apply Ext.alloc | (refine Ext.setCell ?_ (by simp <;> omega) _) | (refine Ext.trans ?_ (by assumption))))⟩

set_option maxRecDepth 100000 in
set_option maxHeartbeats 1000000 in
theorem value_op1 (S : Nat → Prop) (op : ByteArray) (n : Int × Int) (nm : ByteArray) (ta tb : Ex) (h0 : (op.toList == [110, 117, 109]) = false) (h : (op.toList == [110, 97, 109, 101]) = false) (hi : ¬ opIx op = -1)
    (vs : Vals) (w : World) (v sl : Value) (hv : Rd S w (.mk op n nm [ta, tb]) v) (hs : VRd S w vs sl) (ra rb : Except Int (Int × Int))
    (ia : ∀ (w : World) (v sl : Value), Rd S w ta v → VRd S w vs sl → Calls Try.prog 45 #[v, sl] w fun e w' => e = endE ra ∧ Ext w w')
    (ib : ∀ (w : World) (v sl : Value), Rd S w tb v → VRd S w vs sl → Calls Try.prog 45 #[v, sl] w fun e w' => e = endE rb ∧ Ext w w') (f : Int) (hra : ra = .error f) :
    Calls Try.prog 45 #[v, sl] w fun e w' => e = endE (.error f) ∧ Ext w w' := by
  subst hra
  unfold Rd at hv
  obtain ⟨base, cap, rfl, -, -, hr⟩ := hv
  rcases hr with hr | ⟨b, rfl, -, hl⟩
  · cases hr
  obtain ⟨c, hc, hra⟩ := hl.get 0 (by simp)
  obtain ⟨d, hd, hrb⟩ := hl.get 1 (by simp)
  obtain ⟨oa, a1, a2, na, ba, la, ca, c0, c1, c2, c3, c4, ea⟩ := hra.shape
  obtain ⟨ob, b1, b2, nb, bb, lb, cb, d0, d1, d2, d3, d4, eb⟩ := hrb.shape
  simp only [List.getElem_cons_zero, List.getElem_cons_succ] at hra hrb
  rw [ea] at hra
  rw [eb] at hrb
  have hbl : b < w.heap.size := World.block_lt_of_cell? w _ (hc 0 (by decide))
  have k0 := (hc 0 (by decide)).trans (congrArg some c0)
  have k1 := (hc 1 (by decide)).trans (congrArg some c1)
  have k2 := (hc 2 (by decide)).trans (congrArg some c2)
  have k3 := (hc 3 (by decide)).trans (congrArg some c3)
  have k4 := (hc 4 (by decide)).trans (congrArg some c4)
  have k5 := (hd 0 (by decide)).trans (congrArg some d0)
  have k6 := (hd 1 (by decide)).trans (congrArg some d1)
  have k7 := (hd 2 (by decide)).trans (congrArg some d2)
  have k8 := (hd 3 (by decide)).trans (congrArg some d3)
  have k9 := (hd 4 (by decide)).trans (congrArg some d4)
  simp only [Nat.zero_add, Nat.zero_mul, Nat.add_zero, Nat.one_mul, Nat.reduceAdd] at k0 k1 k2 k3 k4 k5 k6 k7 k8 k9
  have IA := Lib.hid (fun w' (hw : Ext w w') => ia w' _ sl (Rd.ext hw hra) (hs.ext hw))
  have IB := Lib.hid (fun w' (hw : Ext w w') => ib w' _ sl (Rd.ext hw hrb) (hs.ext hw))
  have HF := Lib.hid (find_some op hi)
  clear hc hd c0 c1 c2 c3 c4 d0 d1 d2 d3 d4 ea eb hra hrb hl ia ib hs
  have g1 : b < w.heap.size + 1 := by omega
  have g2 : b < w.heap.size + 1 + 1 := by omega
  simp only [endE] at IA ⊢
  go_enter Try.func45, Try.ntmps45
  go_wp2_with (first
    | (go_at_call 73; (with_reducible refine (HF.out _).mono ?_); rintro e w1 ⟨rfl, hb⟩; obtain ⟨hc, hf⟩ := hb.cells; have hz := hb.size; simp at hz; have z1 : w.heap.size < w1.heap.size := (by omega); have z2 : b < w1.heap.size := (by omega))
    | (go_at_call 45; (with_reducible refine (IA.out _ (by with_reducible repeat (first | exact Ext.refl _ | assumption | apply Ext.drewN | apply Ext.drew | apply Ext.alloc | (refine Ext.setCell ?_ (by simp <;> omega) _) | (refine Ext.trans ?_ (by assumption))))).mono ?_); rintro e w2 ⟨rfl, hb2⟩))
  exact ⟨rfl, rfl, (by with_reducible repeat (first | exact Ext.refl _ | assumption | apply Ext.drewN | apply Ext.drew | apply Ext.alloc | (refine Ext.setCell ?_ (by simp <;> omega) _) | (refine Ext.trans ?_ (by assumption))))⟩

end Go.Proofs.Ytgkdeknfmmgbdaa

namespace Go.Proofs.Ytgkdeknfmmgbdaa
set_option linter.unusedVariables false
set_option linter.unusedSimpArgs false
open Go.RowKit

set_option maxRecDepth 100000 in
set_option maxHeartbeats 1000000 in
theorem value_op2 (S : Nat → Prop) (op : ByteArray) (n : Int × Int) (nm : ByteArray) (ta tb : Ex) (h0 : (op.toList == [110, 117, 109]) = false) (h : (op.toList == [110, 97, 109, 101]) = false) (hi : ¬ opIx op = -1)
    (vs : Vals) (w : World) (v sl : Value) (hv : Rd S w (.mk op n nm [ta, tb]) v) (hs : VRd S w vs sl) (ra rb : Except Int (Int × Int))
    (ia : ∀ (w : World) (v sl : Value), Rd S w ta v → VRd S w vs sl → Calls Try.prog 45 #[v, sl] w fun e w' => e = endE ra ∧ Ext w w')
    (ib : ∀ (w : World) (v sl : Value), Rd S w tb v → VRd S w vs sl → Calls Try.prog 45 #[v, sl] w fun e w' => e = endE rb ∧ Ext w w') (x : Int × Int) (f : Int) (hra : ra = .ok x) (hrb : rb = .error f) :
    Calls Try.prog 45 #[v, sl] w fun e w' => e = endE (.error f) ∧ Ext w w' := by
  subst hra hrb
  unfold Rd at hv
  obtain ⟨base, cap, rfl, -, -, hr⟩ := hv
  rcases hr with hr | ⟨b, rfl, -, hl⟩
  · cases hr
  obtain ⟨c, hc, hra⟩ := hl.get 0 (by simp)
  obtain ⟨d, hd, hrb⟩ := hl.get 1 (by simp)
  obtain ⟨oa, a1, a2, na, ba, la, ca, c0, c1, c2, c3, c4, ea⟩ := hra.shape
  obtain ⟨ob, b1, b2, nb, bb, lb, cb, d0, d1, d2, d3, d4, eb⟩ := hrb.shape
  simp only [List.getElem_cons_zero, List.getElem_cons_succ] at hra hrb
  rw [ea] at hra
  rw [eb] at hrb
  have hbl : b < w.heap.size := World.block_lt_of_cell? w _ (hc 0 (by decide))
  have k0 := (hc 0 (by decide)).trans (congrArg some c0)
  have k1 := (hc 1 (by decide)).trans (congrArg some c1)
  have k2 := (hc 2 (by decide)).trans (congrArg some c2)
  have k3 := (hc 3 (by decide)).trans (congrArg some c3)
  have k4 := (hc 4 (by decide)).trans (congrArg some c4)
  have k5 := (hd 0 (by decide)).trans (congrArg some d0)
  have k6 := (hd 1 (by decide)).trans (congrArg some d1)
  have k7 := (hd 2 (by decide)).trans (congrArg some d2)
  have k8 := (hd 3 (by decide)).trans (congrArg some d3)
  have k9 := (hd 4 (by decide)).trans (congrArg some d4)
  simp only [Nat.zero_add, Nat.zero_mul, Nat.add_zero, Nat.one_mul, Nat.reduceAdd] at k0 k1 k2 k3 k4 k5 k6 k7 k8 k9
  have IA := Lib.hid (fun w' (hw : Ext w w') => ia w' _ sl (Rd.ext hw hra) (hs.ext hw))
  have IB := Lib.hid (fun w' (hw : Ext w w') => ib w' _ sl (Rd.ext hw hrb) (hs.ext hw))
  have HF := Lib.hid (find_some op hi)
  clear hc hd c0 c1 c2 c3 c4 d0 d1 d2 d3 d4 ea eb hra hrb hl ia ib hs
  have g1 : b < w.heap.size + 1 := by omega
  have g2 : b < w.heap.size + 1 + 1 := by omega
  simp only [endE] at IA IB ⊢
  obtain ⟨x1, x2⟩ := x
  go_enter Try.func45, Try.ntmps45
  go_wp2_with (first
    | (go_at_call 73; (with_reducible refine (HF.out _).mono ?_); rintro e w1 ⟨rfl, hb⟩; obtain ⟨hc, hf⟩ := hb.cells; have hz := hb.size; simp at hz; have z1 : w.heap.size < w1.heap.size := (by omega); have z2 : b < w1.heap.size := (by omega))
    | (go_at_call 45; (with_reducible refine (IA.out _ (by with_reducible repeat (first | exact Ext.refl _ | assumption | apply Ext.drewN | apply Ext.drew | apply Ext.alloc | (refine Ext.setCell ?_ (by simp <;> omega) _) | (refine Ext.trans ?_ (by assumption))))).mono ?_); rintro e w2 ⟨rfl, hb2⟩; obtain ⟨hc2, hf2⟩ := hb2.cells; have hz2 := hb2.size; simp at hz2; have z3 : w.heap.size < w1.heap.size + 1 := (by omega); have z4 : b < w1.heap.size + 1 := (by omega); have z5 : w.heap.size < w2.heap.size := (by omega); have z6 : b < w2.heap.size := (by omega); have z7 : w1.heap.size < w2.heap.size := (by omega); have z8 : w.heap.size < w2.heap.size + 1 := (by omega); have z9 : b < w2.heap.size + 1 := (by omega); have z10 : w1.heap.size < w2.heap.size + 1 := (by omega)))
  refine Rr.wp_regionG [11] [(0, .y), (1, .y), (2, .y), (3, .y), (4, .y), (5, .y), (6, .y), (7, .z), (8, .y), (9, .y), (10, .y), (11, .y), (12, .m)] (fun _ => (.cells #[.int .i64 0, .int .i64 0] 26, Rg.ptr)) (fun c _ => c = [{ v := .iface 91 (.agg #[.int .i64 f]), recovered := false }]) ?_ (fun _ c a d v w h => by have h' : _ ∧ _ := h; exact ⟨(Rr.put_defers a d v).symm.trans h'.1, h'.2⟩) (by kernel_rfl) (by kernel_rfl) ?_
  · rintro c a' w' hd hx rfl
    exact ⟨hd, rfl, (by with_reducible repeat (first | exact Ext.refl _ | assumption | apply Ext.drewN | apply Ext.drew | apply Ext.alloc | (refine Ext.setCell ?_ (by simp <;> omega) _) | (refine Ext.trans ?_ (by assumption))))⟩
  repeat
    (refine Rr.wr_y (by rfl) (by rfl) ?_
     apply Exists.intro
     refine ⟨fun wz hw _ => ?_, ?_⟩
     · obtain ⟨hcz, hfz⟩ := hw.cells
       go_simp
       exact Rg.up_value
     simp only [Act.put, List.setIfInBounds_toArray, List.set_cons_zero, List.set_cons_succ])
  refine Rr.wr_z (fun _ _ => False) (by rfl) (by rfl) (fun _ _ _ h _ => h) ?_ ?_
  · intro wz hw _
    obtain ⟨hcz, hfz⟩ := hw.cells
    go_simp
    apply Rr.upR_panic
    (with_reducible refine (IB.out _ (by with_reducible repeat (first | exact Ext.refl _ | assumption | apply Ext.drewN | apply Ext.drew | apply Ext.alloc | (refine Ext.setCell ?_ (by simp <;> omega) _) | (refine Ext.trans ?_ (by assumption))))).mono ?_)
    rintro e w3 ⟨rfl, hb3⟩
    exact ⟨_, rfl, hb3, rfl⟩
  · intro u
    refine Rr.wr_dead (fun a fs hd w' _ hh => ?_) _ _ _ _ ⟨_, List.mem_cons_self, fun _ h => h⟩ ?_
    · obtain ⟨g, hg, hno⟩ := hd
      exact absurd (hh g hg) (hno _)
    · intro x hx
      simp only [List.mem_cons, List.not_mem_nil, or_false] at hx
      rcases hx with rfl | rfl | rfl | rfl | rfl
      · exact ⟨_, rfl, .inl rfl⟩
      · exact ⟨_, rfl, .inl rfl⟩
      · exact ⟨_, rfl, .inl rfl⟩
      · exact ⟨_, rfl, .inl rfl⟩
      · exact ⟨_, rfl, .inr ⟨rfl, fun a => ⟨rfl, fun w => by go_simp⟩⟩⟩

end Go.Proofs.Ytgkdeknfmmgbdaa

namespace Go.Proofs.Ytgkdeknfmmgbdaa
set_option linter.unusedVariables false
set_option linter.unusedSimpArgs false
open Go.RowKit

section
variable {ρ : Operand → Value} {d : Option Tmp} {x : Operand} {ty : TypeId} {ps : String} {af : Array Edge} {gd : Option (Nat × Bool)} {w : World} {b o : Nat}
theorem up_load29 {c0 c1 c2 c3 c4 : Value} (hx : ρ x = .pointer (some ⟨b, o, none⟩)) (h0 : w.cell? ⟨b, o, none⟩ = some c0) (h1 : w.cell? ⟨b, o + 1, none⟩ = some c1) (h2 : w.cell? ⟨b, o + 2, none⟩ = some c2) (h3 : w.cell? ⟨b, o + 3, none⟩ = some c3) (h4 : w.cell? ⟨b, o + 4, none⟩ = some c4) :
    Rg.up Try.prog w (.agg #[c0, c1, c2, c3, c4]) ((execOp ρ { dst := d, op := .load 29 x, type := ty, pos := ps, after := af, guard := gd }).run Try.prog w) := by
  simp only [execOp, hx]
  go_simp
  exact Rg.up_value
theorem up_load26 {c0 c1 : Value} (hx : ρ x = .pointer (some ⟨b, o, none⟩)) (h0 : w.cell? ⟨b, o, none⟩ = some c0) (h1 : w.cell? ⟨b, o + 1, none⟩ = some c1) :
    Rg.up Try.prog w (.agg #[c0, c1]) ((execOp ρ { dst := d, op := .load 26 x, type := ty, pos := ps, after := af, guard := gd }).run Try.prog w) := by
  simp only [execOp, hx]
  go_simp
  exact Rg.up_value
theorem up_load117 {c0 c1 : Value} (hx : ρ x = .pointer (some ⟨b, o, none⟩)) (h0 : w.cell? ⟨b, o, none⟩ = some c0) (h1 : w.cell? ⟨b, o + 1, none⟩ = some c1) :
    Rg.up Try.prog w (.agg #[c0, c1]) ((execOp ρ { dst := d, op := .load 117 x, type := ty, pos := ps, after := af, guard := gd }).run Try.prog w) := by
  simp only [execOp, hx]
  go_simp
  exact Rg.up_value
end
end Go.Proofs.Ytgkdeknfmmgbdaa
