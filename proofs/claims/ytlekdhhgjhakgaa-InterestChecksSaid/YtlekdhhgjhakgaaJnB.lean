/-
  Joined: the lemmas of this claim that other texts of it use, part 2. Nothing is asked.
-/
import Derived.Test.YtlekdhhgjhakgaaJnA
import Derived.Deep.AppendLies
import Derived.Laws.Rows
import Derived.Laws.CopyRow
import Derived.Laws.CopyOwn
import Derived.DeepKeys4
import Derived.LoopTactic
import Derived.Deep.CutBlock
import Derived.Deep.Upon
import Derived.ArgAppend
namespace Go.Proofs.Ytlekdhhgjhakgaa.Rr
set_option linter.unusedVariables false
set_option linter.unusedSimpArgs false
open Go.RowKit Go.Proofs.Ytlekdhhgjhakgaa Go.Proofs.Ytlekdhhgjhakgaa.Rg

inductive Kd | y | z | m
deriving DecidableEq

/-- What a call may panic with. -/
abbrev Pnc := List PanicEntry → World → Prop

section
variable {P : Program} {ops : Array Oper} {md : Region.Mode} {w0 : World} {kd : Nat → Kd} {M : Nat → Obj × (Nat → Value)} {n : Nat} {Pn : Pnc} {E : List Nat}

abbrev Fs := List (World → Prop)
def Holds (fs : Fs) (w : World) : Prop := ∀ f ∈ fs, f w
/-- What holds of a world holds of every world grown out of it. -/
def Keeps (f : World → Prop) : Prop := ∀ w w', f w → Ext w w' → f w'
def Blk (w0 : World) (p : Nat) (ob : Obj) : World → Prop := fun w => w0.heap.size ≤ p ∧ w.heap[p]? = some ob
theorem Blk.keeps {p : Nat} {ob : Obj} : Keeps (Blk w0 p ob) := fun _ _ h e => ⟨h.1, (e.block _ (lt_of_heap h.2)).trans h.2⟩
abbrev Le (fs fs' : Fs) : Prop := ∀ f ∈ fs, f ∈ fs'
theorem Holds.le {fs fs' : Fs} {w : World} (h : Holds fs' w) (l : Le fs fs') : Holds fs w := fun f hf => h f (l f hf)

/-- One value, in every grown world in which the facts hold. -/
def Y (P : Program) (ops : Array Oper) (w0 : World) (fs : Fs) (o : Oper) (v : Value) (a : Act) : Prop :=
  (Region.wanted o (yielded ops a.tmps) = true ∧ ∀ w, Ext w0 w → Holds fs w → up P w v ((execOp a.eval o).run P w)) ∨ (Region.wanted o (yielded ops a.tmps) = false ∧ v = undef)
theorem Y.of_same {fs : Fs} {o : Oper} {v : Value} {a a' : Act} (hy : Y P ops w0 fs o v a) (he : execOp a'.eval o = execOp a.eval o)
    (hw : Region.wanted o (yielded ops a'.tmps) = Region.wanted o (yielded ops a.tmps)) : Y P ops w0 fs o v a' := by
  unfold Y at *
  rw [he, hw]
  exact hy
theorem Y.more {fs fs' : Fs} {o : Oper} {v : Value} {a : Act} (hy : Y P ops w0 fs o v a) (l : Le fs fs') : Y P ops w0 fs' o v a :=
  hy.imp (fun ⟨h1, h2⟩ => ⟨h1, fun w e hf => h2 w e (hf.le l)⟩) id

def upR (P : Program) (Pn : Pnc) (w : World) (R : Value → World → Prop) : Result Next → Prop
  | .ok (.value v) w' => Ext w w' ∧ R v w'
  | .ok (.enter f args) w' => w' = w ∧ Calls P f args w (fun e w'' => Ext w w'' ∧ ((∃ v, e = .returned v ∧ R v w'') ∨ ∃ c, e = .panicked c ∧ Pn c w''))
  | _ => False
theorem upR_value {w w' : World} {R : Value → World → Prop} {v : Value} (h : Ext w w') (r : R v w') : upR P Pn w R (.ok (.value v) w') := ⟨h, r⟩
theorem upR_enter {w : World} {R : Value → World → Prop} {f : FuncId} {args : Array Value} (h : Calls P f args w (fun e w'' => ∃ v, e = .returned v ∧ Ext w w'' ∧ R v w'')) : upR P Pn w R (.ok (.enter f args) w) := ⟨rfl, h.mono fun _ _ ⟨v, he, hx, hr⟩ => ⟨hx, .inl ⟨v, he, hr⟩⟩⟩
theorem upR_panic {w : World} {R : Value → World → Prop} {f : FuncId} {args : Array Value} (h : Calls P f args w (fun e w'' => ∃ c, e = .panicked c ∧ Ext w w'' ∧ Pn c w'')) : upR P Pn w R (.ok (.enter f args) w) := ⟨rfl, h.mono fun _ _ ⟨v, he, hx, hr⟩ => ⟨hx, .inr ⟨v, he, hr⟩⟩⟩

/-- An operation whose result is known by a relation. -/
def Z (P : Program) (Pn : Pnc) (ops : Array Oper) (w0 : World) (fs : Fs) (o : Oper) (R : Value → World → Prop) (a : Act) : Prop :=
  Region.wanted o (yielded ops a.tmps) = true ∧ (∀ v, Keeps (R v)) ∧ ∀ w, Ext w0 w → Holds fs w → upR P Pn w R ((execOp a.eval o).run P w)
theorem Z.of_same {fs : Fs} {o : Oper} {R : Value → World → Prop} {a a' : Act} (hy : Z P Pn ops w0 fs o R a) (he : execOp a'.eval o = execOp a.eval o)
    (hw : Region.wanted o (yielded ops a'.tmps) = Region.wanted o (yielded ops a.tmps)) : Z P Pn ops w0 fs o R a' := by
  unfold Z at *
  rw [he, hw]
  exact hy
theorem Z.more {fs fs' : Fs} {o : Oper} {R : Value → World → Prop} {a : Act} (hy : Z P Pn ops w0 fs o R a) (l : Le fs fs') : Z P Pn ops w0 fs' o R a :=
  ⟨hy.1, hy.2.1, fun w e hf => hy.2.2 w e (hf.le l)⟩

/-- It makes a block, and its value is known by the block's place. -/
def Mk (P : Program) (ops : Array Oper) (o : Oper) (m : Obj × (Nat → Value)) (a : Act) : Prop :=
  Region.wanted o (yielded ops a.tmps) = true ∧ ∀ w, (execOp a.eval o).run P w = .ok (.value (m.2 w.heap.size)) (w.alloc m.1)
theorem Mk.of_same {o : Oper} {m : Obj × (Nat → Value)} {a a' : Act} (hy : Mk P ops o m a) (he : execOp a'.eval o = execOp a.eval o)
    (hw : Region.wanted o (yielded ops a'.tmps) = Region.wanted o (yielded ops a.tmps)) : Mk P ops o m a' := by
  unfold Mk at *
  rw [he, hw]
  exact hy

/-- K: what goes on. -/
def stp (P : Program) (Pn : Pnc) (ops : Array Oper) (w0 : World) (kd : Nat → Kd) (M : Nat → Obj × (Nat → Value)) (i : Nat) (K : Act → List Nat → Fs → Prop) (a : Act) (bs : List Nat) (fs : Fs) : Prop :=
  match ops[i]? with
  | none => False
  | some o => match kd i with
    | .m => Mk P ops o (M i) a ∧ ∀ p, p ∉ bs → K (a.put o.dst ((M i).2 p)) (p :: bs) (Blk w0 p (M i).1 :: fs)
    | .z => ∃ R, Z P Pn ops w0 fs o R a ∧ ∀ v, K (a.put o.dst v) bs (R v :: fs)
    | .y => ∃ v, Y P ops w0 fs o v a ∧ K (a.put o.dst v) bs fs

/-- What may come next, where the first operation of the tail is made to wait for those of E besides. -/
def rdy (md : Region.Mode) (ops : Array Oper) (n : Nat) (E : List Nat) (listed : Array Bool) : List Nat := (Region.ready md ops listed).filter fun j => j != n || E.all fun i => listed.getD i false
theorem mem_rdy {j : Nat} {listed : Array Bool} : j ∈ rdy md ops n E listed ↔ j ∈ Region.ready md ops listed ∧ (j = n → ∀ i ∈ E, listed.getD i false = true) := by
  unfold rdy
  rw [List.mem_filter]
  refine and_congr_right fun _ => ?_
  by_cases h : j = n
  · simp [h]
  · simp [h]
theorem rdy_mono {i j : Nat} {listed : Array Bool} (hj : j ∈ rdy md ops n E listed) (hne : j ≠ i) : j ∈ rdy md ops n E (listed.setIfInBounds i true) := by
  rw [mem_rdy] at hj ⊢
  exact ⟨ready_mono hj.1 hne, fun h k hk => getD_set_true (hj.2 h k hk)⟩

def sinkE (md : Region.Mode) (ops : Array Oper) (E : List Nat) (n : Nat) : Bool :=
  (List.range n).all fun i => E.contains i || (List.range (n + 1)).any fun j => decide (i < j) && Region.waitsFor md ops j i

theorem tailE {listed : Array Bool} (hs : sinkE md ops E n = true) (hc : Region.chainB md ops n = true) (hn : n < ops.size) (inv : HeadInv md ops n listed) :
    ∀ (d i : Nat), n - i = d → i < n → listed.getD i true = false → ∀ t, n ≤ t → t ∉ rdy md ops n E listed := by
  intro d
  induction d using Nat.strongRecOn with
  | _ d ih =>
    intro i hd hi hun t ht hr
    obtain ⟨hrr, hEr⟩ := mem_rdy.1 hr
    obtain ⟨_, ot, hot, hall⟩ := mem_ready.1 hrr
    have htlt : t < ops.size := (Array.getElem?_eq_some_iff.1 hot).1
    by_cases htn : t = n
    · subst htn
      have h1 := List.all_eq_true.1 hs i (List.mem_range.2 hi)
      rw [Bool.or_eq_true] at h1
      rcases h1 with h1 | h1
      · have := hEr rfl i (by simpa using h1)
        rw [getD_both hun] at this; cases this
      · obtain ⟨j, hj, hj2⟩ := List.any_eq_true.1 h1
        simp only [Bool.and_eq_true, decide_eq_true_eq] at hj2
        obtain ⟨oj, hoj, e, he, hb, hon⟩ := Region.waitsFor_spec hj2.2
        have hjle : j ≤ t := by have := List.mem_range.1 hj; omega
        by_cases hjt : j = t
        · subst hjt
          have : oj = ot := Option.some.inj (hoj.symm.trans hot)
          subst this
          have h2 := hall e he hb
          rw [hon, getD_both hun] at h2
          cases h2
        · cases hl : listed.getD j false with
          | true =>
            have h2 := inv.closed j oj hoj hl e he hb
            rw [hon, getD_both hun] at h2
            cases h2
          | false =>
            have hjs : j < listed.size := by rw [inv.size]; omega
            exact ih (t - j) (by omega) j rfl (by omega) (getD_in hjs hl) t (Nat.le_refl _) hr
    · have h1 := List.all_eq_true.1 hc t (List.mem_range.2 htlt)
      simp only [Bool.or_eq_true, decide_eq_true_eq] at h1
      rcases h1 with h1 | h1
      · omega
      · obtain ⟨o', ho', e, he, hb, hon⟩ := Region.waitsFor_spec h1
        have : o' = ot := Option.some.inj (ho'.symm.trans hot)
        subst this
        have h2 := hall e he hb
        rw [hon, getD_both (inv.tail (t - 1) (by omega) (by omega))] at h2
        cases h2

/-- Without a guard, of the frame alone. -/
def fieldB (P : Program) (s : TypeId) (f : Nat) : Bool := match P.underlying s with
  | some (.struct fs) => (match fs[f]? with | some fl => (match P.info? fl.type with | some i => i.size != 0 | none => false) | none => false)
  | _ => false
def pureB (P : Program) (o : Oper) : Bool := o.guard.isNone && match o.op with | .extract _ _ => true | .move _ => true | .fieldAddr s _ f => fieldB P s f | _ => false
theorem pure_run {o : Oper} (h : pureB P o = true) {ρ : Operand → Value} {w : World} {v : Value} (hu : up P w v ((execOp ρ o).run P w)) : ∀ w', (execOp ρ o).run P w' = .ok (.value v) w' := by
  intro w'
  obtain ⟨dst, op, ty, ps, af, gd⟩ := o
  unfold pureB at h
  rw [Bool.and_eq_true] at h
  obtain ⟨-, h⟩ := h
  cases op <;> simp only [Bool.false_eq_true] at h
  case fieldAddr s x f =>
    unfold fieldB at h
    generalize hx : ρ x = u at *
    split at h
    · rename_i fs hs
      split at h
      · rename_i fl hf
        split at h
        · rename_i i hi
          have hz : i.size ≠ 0 := by simpa using h
          cases u <;> simp [go_sem, up, hx, hs, hf, hi, hz, Instr.fieldAt, underlying, fieldPlace, sizeOf, typeInfo, Instr.sureAddr] at hu ⊢
          rename_i a
          cases a <;> simp [go_sem, hs, hf, hi, hz, Instr.fieldAt, underlying, fieldPlace, sizeOf, typeInfo, Instr.sureAddr] at hu ⊢
          exact hu
        · cases h
      · cases h
    · cases h
  case move x => simp [go_sem, up] at hu ⊢; exact hu
  case extract x k =>
    generalize hx : ρ x = u at *
    cases u <;> simp [go_sem, up, hx] at hu ⊢
    rename_i vs
    cases hk : vs[k]? with
    | none => simp [go_sem, up, hk] at hu
    | some y => simp [go_sem, up, hk] at hu ⊢; exact hu

/-- What is asked of E. -/
def eagerB (P : Program) (md : Region.Mode) (ops : Array Oper) (kd : Nat → Kd) (E : List Nat) (n : Nat) : Bool :=
  E.all fun i => decide (i < n) && decide (kd i = .y) && Region.free md ops ((List.range ops.size).map fun j => Region.waitsFor md ops n j).toArray i && match ops[i]? with
    | some o => pureB P o && o.after.all fun e => !Region.binds md e || Region.waitsFor md ops n e.on
    | none => false

def WX (P : Program) (Pn : Pnc) (E : List Nat) (md : Region.Mode) (ops : Array Oper) (w0 : World) (kd : Nat → Kd) (M : Nat → Obj × (Nat → Value)) (n : Nat) (T : Array Bool → Act → Fs → Prop) : Nat → Array Bool → Act → List Nat → Fs → Prop
  | 0, listed, a, _, fs => T listed a fs
  | f + 1, listed, a, bs, fs => rdy md ops n E listed ≠ [] ∧ ∀ i ∈ rdy md ops n E listed, i < n ∧ stp P Pn ops w0 kd M i (WX P Pn E md ops w0 kd M n T f (listed.setIfInBounds i true)) a bs fs

theorem le_cons {fs fs' : Fs} (l : Le fs fs') (f : World → Prop) : Le (f :: fs) (f :: fs') := fun g hg => by
  rcases List.mem_cons.1 hg with rfl | hg
  · exact List.mem_cons_self
  · exact List.mem_cons_of_mem _ (l g hg)
theorem le_swap {fs : Fs} (f g : World → Prop) : Le (f :: g :: fs) (g :: f :: fs) := fun x hx => by
  simp only [List.mem_cons] at hx ⊢
  rcases hx with h | h | h
  · exact .inr (.inl h)
  · exact .inl h
  · exact .inr (.inr h)

theorem WX.mono {T : Array Bool → Act → Fs → Prop} (hT : ∀ listed a fs fs', Le fs fs' → T listed a fs → T listed a fs') :
    ∀ (f : Nat) (listed : Array Bool) (a : Act) (bs bs' : List Nat) (fs fs' : Fs), (∀ b ∈ bs, b ∈ bs') → Le fs fs' → WX P Pn E md ops w0 kd M n T f listed a bs fs → WX P Pn E md ops w0 kd M n T f listed a bs' fs'
  | 0, _, _, _, _, _, _, _, l, h => hT _ _ _ _ l h
  | f + 1, listed, a, bs, bs', fs, fs', hb, l, h => by
    refine ⟨h.1, fun i hi => ⟨(h.2 i hi).1, ?_⟩⟩
    have h1 := (h.2 i hi).2
    unfold stp at h1 ⊢
    split at h1
    · exact h1.elim
    · split at h1
      · refine ⟨h1.1, fun p hp => WX.mono hT f _ _ _ _ _ _ (fun b hb' => ?_) (le_cons l _) (h1.2 p fun h => hp (hb _ h))⟩
        rcases List.mem_cons.1 hb' with rfl | hb'
        · exact List.mem_cons_self
        · exact List.mem_cons_of_mem _ (hb b hb')
      · obtain ⟨R, hz, hk⟩ := h1
        exact ⟨R, hz.more l, fun v => WX.mono hT f _ _ _ _ _ _ hb (le_cons l _) (hk v)⟩
      · obtain ⟨v, hy, hk⟩ := h1
        exact ⟨v, hy.more l, WX.mono hT f _ _ _ _ _ _ hb l hk⟩

theorem Y.wpOp {fs : Fs} {i : Nat} {o : Oper} {v : Value} {a : Act} {w : World} {K : Act → World → Prop} {Q : Exit → Act → World → Prop} (hi : ops[i]? = some o) (hy : Y P ops w0 fs o v a) (hw : Ext w0 w) (hf : Holds fs w)
    (h : ∀ w', Ext w w' → K (a.put o.dst v) w') : wpOp P ops Q i K a w := by
  unfold Go.wpOp
  simp only [hi]
  rcases hy with ⟨hwt, hu⟩ | ⟨hwt, rfl⟩
  · simp only [hwt, if_true]
    refine .inl ?_
    have := hu w hw hf
    unfold Oper.wp
    generalize (execOp a.eval o).run P w = r at *
    cases r with
    | ok x w' =>
      cases x <;> simp only [up] at this <;> simp only [Oper.upon]
      case value u => obtain ⟨rfl, rfl⟩ := this; exact h _ (Ext.refl _)
      case skip => obtain ⟨rfl, rfl⟩ := this; exact h _ (Ext.refl _)
      case enter f args =>
        obtain ⟨rfl, hc⟩ := this
        exact hc.mono fun e w'' ⟨he, hb⟩ => by subst he; exact h _ hb
    | halt x w' => simp only [up] at this
  · simp only [hwt, Bool.false_eq_true, if_false]
    exact h _ (Ext.refl _)

theorem Z.wpOp {fs : Fs} {i : Nat} {o : Oper} {R : Value → World → Prop} {a : Act} {w : World} {K : Act → World → Prop} {Q : Exit → Act → World → Prop} (hi : ops[i]? = some o) (hy : Z P Pn ops w0 fs o R a) (hw : Ext w0 w) (hf : Holds fs w)
    (hQ : ∀ c w', Ext w0 w' → Pn c w' → Q (.panic c) a w')
    (h : ∀ v w', Ext w w' → R v w' → K (a.put o.dst v) w') : wpOp P ops Q i K a w := by
  unfold Go.wpOp
  obtain ⟨hwt, _, hu⟩ := hy
  simp only [hi, hwt, if_true]
  refine .inl ?_
  have := hu w hw hf
  unfold Oper.wp
  generalize (execOp a.eval o).run P w = r at *
  cases r with
  | ok x w' =>
    cases x <;> simp only [upR] at this
    case value v =>
      simp only [Oper.upon]
      exact h _ _ this.1 this.2
    case enter f args =>
      simp only [Oper.upon]
      obtain ⟨rfl, hc⟩ := this
      refine hc.mono fun e w'' ⟨hb, hr⟩ => ?_
      rcases hr with ⟨v, he, hr⟩ | ⟨c, he, hr⟩
      · subst he; exact h _ _ hb hr
      · subst he; exact hQ _ _ (hw.trans hb) hr
  | halt x w' => simp only [upR] at this

theorem Holds.cons {f : World → Prop} {fs : Fs} {w : World} (h : f w) (hs : Holds fs w) : Holds (f :: fs) w := fun g hg => by
  rcases List.mem_cons.1 hg with rfl | hg
  · exact h
  · exact hs g hg

theorem put_defers (a : Act) (d : Option Tmp) (v : Value) : (a.put d v).defers = a.defers := by cases d <;> rfl

theorem WX.sound {T : Array Bool → Act → Fs → Prop} {Q : Exit → Act → World → Prop} {g : Nat} {ds : List Deferred}
    (hT : ∀ listed a fs w, T listed a fs → Ext w0 w → Holds fs w → wpAny P md ops Q g listed a w) (hQ : ∀ c a w', a.defers = ds → Ext w0 w' → Pn c w' → Q (.panic c) a w')
    (hsel : ∀ (j : Nat) (o : Oper) cs b, ops[j]? = some o → o.op ≠ .select cs b) (hEB : eagerB P md ops kd E n = true) (hQp : E ≠ [] → ∀ c a d v w, Q (.panic c) (a.put d v) w → Q (.panic c) a w) :
    ∀ (f : Nat) (listed : Array Bool) (a : Act) (bs : List Nat) (fs : Fs) (w : World), a.defers = ds → HeadInv md ops n listed → WX P Pn E md ops w0 kd M n T f listed a bs fs → Ext w0 w → (∀ b ∈ bs, b < w.heap.size) → Holds fs w → (∀ x ∈ fs, Keeps x) → wpAny P md ops Q (f + g) listed a w
  | 0, listed, a, bs, fs, w, _, _, h, e, _, hH, _ => by rw [Nat.zero_add]; exact hT _ _ _ _ h e hH
  | f + 1, listed, a, bs, fs, w, hd, inv, h, e, hB, hH, hK => by
    rw [show f + 1 + g = (f + g) + 1 by omega]
    have ext : ∀ w', Ext w w' → Holds fs w' := fun w' hw' x hx => hK x hx w w' (hH x hx) hw'
    have blw : ∀ w', Ext w w' → ∀ b ∈ bs, b < w'.heap.size := fun w' hw' b hb => Nat.lt_of_lt_of_le (hB b hb) hw'.size
    by_cases hE : ∃ i ∈ E, n ∈ Region.ready md ops listed ∧ listed.getD i false = false
    · obtain ⟨i, hiE, hnr, hun⟩ := hE
      have hb := List.all_eq_true.1 hEB i hiE
      simp only [Bool.and_eq_true, decide_eq_true_eq] at hb
      obtain ⟨⟨⟨hin, hky⟩, hfree⟩, hb⟩ := hb
      split at hb
      · rename_i o ho
        rw [Bool.and_eq_true] at hb
        obtain ⟨hpu, haf⟩ := hb
        obtain ⟨_, on, hon, hall⟩ := mem_ready.1 hnr
        have his : i < listed.size := by rw [inv.size]; exact (Array.getElem?_eq_some_iff.1 ho).1
        have hir : i ∈ Region.ready md ops listed := mem_ready.2 ⟨getD_in his hun, o, ho, fun e he hbi => by
          have h1 := Array.all_eq_true_iff_forall_mem.1 haf e he
          rw [hbi, Bool.not_true, Bool.false_or] at h1
          obtain ⟨on', hon', e', he', hb', hee⟩ := Region.waitsFor_spec h1
          have : on' = on := Option.some.inj (hon'.symm.trans hon)
          subst this
          rw [← hee]
          exact hall e' he' hb'⟩
        have hi : i ∈ rdy md ops n E listed := mem_rdy.2 ⟨hir, fun h => absurd h (by omega)⟩
        have hi0 := hir
        have hs := (h.2 i hi).2
        unfold stp at hs
        simp only [ho, hky] at hs
        obtain ⟨v, hy, hk⟩ := hs
        have hyi : Yields P ops o v a := hy.imp (fun ⟨h1, h2⟩ => ⟨h1, pure_run hpu (h2 w e hH)⟩) id
        refine wpAny_first ho hsel (fun c a w => hQp (fun h => by rw [h] at hiE; cases hiE) c a _ _ w) (f + g) listed a w (fun j oj hj hne hju hno => Region.free_spec ho hfree j oj hj hne (by
          have hjs := (Array.getElem?_eq_some_iff.1 hj).1
          cases hwj : Region.waitsFor md ops n j with
          | false => simp [hjs, hwj]
          | true =>
            obtain ⟨on', hon', e', he', hb', hee⟩ := Region.waitsFor_spec hwj
            have : on' = on := Option.some.inj (hon'.symm.trans hon)
            subst this
            have := hall e' he' hb'
            rw [hee, getD_both hju] at this
            cases this) hno) hir hyi ?_
        exact WX.sound hT hQ hsel hEB hQp f _ _ _ _ _ ((put_defers _ _ _).trans hd) (inv.set hi0 (h.2 i hi).1) hk e hB hH hK
      · cases hb
    have hrd : ∀ j, j ∈ Region.ready md ops listed → j ∈ rdy md ops n E listed := fun j hj => mem_rdy.2 ⟨hj, fun hjn i hiE => by
      cases hc : listed.getD i false with
      | true => rfl
      | false => exact absurd ⟨i, hiE, hjn ▸ hj, hc⟩ hE⟩
    refine ⟨fun h0 => absurd (List.eq_nil_iff_forall_not_mem.2 fun j hj => by rw [h0] at hrd; have := (mem_rdy.1 hj).1; rw [h0] at this; cases this) h.1, fun i hi0 => ?_⟩
    have hi := hrd i hi0
    have hs := (h.2 i hi).2
    unfold stp at hs
    split at hs
    · exact hs.elim
    · rename_i o ho
      split at hs
      · obtain ⟨⟨hwt, hm⟩, hp⟩ := hs
        unfold wpOp
        simp only [ho, hwt, if_true]
        refine .inl ?_
        unfold Oper.wp
        rw [hm]
        simp only [Oper.upon]
        have e1 : Ext w (w.alloc (M i).1) := (Ext.refl w).alloc _
        have hsz : (w.alloc (M i).1).heap.size = w.heap.size + 1 := by show (w.heap.push _).size = _; simp
        refine WX.sound hT hQ hsel hEB hQp f _ _ _ _ _ ((put_defers _ _ _).trans hd) (inv.set hi0 (h.2 i hi).1) (hp w.heap.size fun h => Nat.lt_irrefl _ (hB _ h)) (e.alloc _) (fun b hb => ?_) (Holds.cons ⟨e.size, ?_⟩ (ext _ e1)) fun x hx => ?_
        · rcases List.mem_cons.1 hb with rfl | hb
          · omega
          · exact blw _ e1 b hb
        · show (w.heap.push _)[w.heap.size]? = _
          simp
        · rcases List.mem_cons.1 hx with rfl | hx
          · exact Blk.keeps
          · exact hK x hx
      · obtain ⟨R, hz, hk⟩ := hs
        exact hz.wpOp ho e hH (fun c w' => hQ c a w' hd) fun v w' hw' hr => WX.sound hT hQ hsel hEB hQp f _ _ _ _ _ ((put_defers _ _ _).trans hd) (inv.set hi0 (h.2 i hi).1) (hk v) (e.trans hw') (blw w' hw') (Holds.cons hr (ext w' hw'))
          (fun x hx => (List.mem_cons.1 hx).elim (fun e => e ▸ hz.2.1 v) (fun h => hK x h))
      · obtain ⟨v, hy, hk⟩ := hs
        exact hy.wpOp ho e hH fun w' hw' => WX.sound hT hQ hsel hEB hQp f _ _ _ _ _ ((put_defers _ _ _).trans hd) (inv.set hi0 (h.2 i hi).1) hk (e.trans hw') (blw w' hw') (ext w' hw') hK

/-- What the first step needs of an operation i: its kind, and what follows it. -/
def At (P : Program) (Pn : Pnc) (ops : Array Oper) (w0 : World) (M : Nat → Obj × (Nat → Value)) (i : Nat) (oi : Oper) (k : Kd) (a : Act) (fs : Fs) (R : Value → World → Prop) (u : Value) : Prop :=
  match k with
  | .m => Mk P ops oi (M i) a
  | .z => Z P Pn ops w0 fs oi R a
  | .y => Y P ops w0 fs oi u a
def Goes (w0 : World) (M : Nat → Obj × (Nat → Value)) (i : Nat) (oi : Oper) (k : Kd) (K : Act → List Nat → Fs → Prop) (a : Act) (bs : List Nat) (fs : Fs) (R : Value → World → Prop) (u : Value) : Prop :=
  match k with
  | .m => ∀ p, p ∉ bs → K (a.put oi.dst ((M i).2 p)) (p :: bs) (Blk w0 p (M i).1 :: fs)
  | .z => ∀ v, K (a.put oi.dst v) bs (R v :: fs)
  | .y => K (a.put oi.dst u) bs fs

theorem stp_of {i : Nat} {oi : Oper} {R : Value → World → Prop} {u : Value} (hi : ops[i]? = some oi) {K : Act → List Nat → Fs → Prop} {a : Act} {bs : List Nat} {fs : Fs} (h1 : At P Pn ops w0 M i oi (kd i) a fs R u) (h2 : Goes w0 M i oi (kd i) K a bs fs R u) : stp P Pn ops w0 kd M i K a bs fs := by
  unfold stp
  simp only [hi]
  unfold At Goes at *
  revert h1 h2
  cases kd i <;> intro h1 h2
  · exact ⟨u, h1, h2⟩
  · exact ⟨R, h1, h2⟩
  · exact ⟨h1, h2⟩
theorem of_stp {i : Nat} {oi : Oper} (hi : ops[i]? = some oi) {K : Act → List Nat → Fs → Prop} {a : Act} {bs : List Nat} {fs : Fs} (h : stp P Pn ops w0 kd M i K a bs fs) : ∃ R u, At P Pn ops w0 M i oi (kd i) a fs R u ∧ Goes w0 M i oi (kd i) K a bs fs R u := by
  unfold stp at h
  simp only [hi] at h
  unfold At Goes
  revert h
  cases kd i <;> intro h
  · obtain ⟨v, h1, h2⟩ := h; exact ⟨fun _ _ => True, v, h1, h2⟩
  · obtain ⟨R, h1, h2⟩ := h; exact ⟨R, undef, h1, h2⟩
  · exact ⟨fun _ _ => True, undef, h⟩
theorem At.of_same {i : Nat} {oi : Oper} {k : Kd} {a a' : Act} {fs : Fs} {R : Value → World → Prop} {u : Value} (h : At P Pn ops w0 M i oi k a fs R u) (he : execOp a'.eval oi = execOp a.eval oi)
    (hw : Region.wanted oi (yielded ops a'.tmps) = Region.wanted oi (yielded ops a.tmps)) : At P Pn ops w0 M i oi k a' fs R u := by
  unfold At at *
  cases k
  · exact Y.of_same h he hw
  · exact Z.of_same h he hw
  · exact Mk.of_same h he hw
theorem At.more {i : Nat} {oi : Oper} {k : Kd} {a : Act} {fs fs' : Fs} {R : Value → World → Prop} {u : Value} (h : At P Pn ops w0 M i oi k a fs R u) (l : Le fs fs') : At P Pn ops w0 M i oi k a fs' R u := by
  unfold At at *
  cases k
  · exact Y.more h l
  · exact Z.more h l
  · exact h
theorem At.less {i : Nat} {oi : Oper} {a : Act} {fs fs' : Fs} {R : Value → World → Prop} {u : Value} (h : At P Pn ops w0 M i oi .m a fs R u) : At P Pn ops w0 M i oi .m a fs' R u := h

theorem fresh_nat : ∀ bs : List Nat, ∃ p, ∀ b ∈ bs, b < p
  | [] => ⟨0, fun _ h => by cases h⟩
  | b :: bs => by
    obtain ⟨p, hp⟩ := fresh_nat bs
    refine ⟨p + b + 1, fun x hx => ?_⟩
    rcases List.mem_cons.1 hx with rfl | hx
    · omega
    · have := hp x hx; omega

/-- The value and the facts that a step of kind k brings. -/
theorem Goes.some {i : Nat} {oi : Oper} {k : Kd} {K : Act → List Nat → Fs → Prop} {a : Act} {bs : List Nat} {fs : Fs} {R : Value → World → Prop} {u : Value} (h : Goes w0 M i oi k K a bs fs R u) : ∃ v bs' fs', K (a.put oi.dst v) bs' fs' := by
  unfold Goes at h
  cases k
  · exact ⟨_, _, _, h⟩
  · exact ⟨_, _, _, h undef⟩
  · obtain ⟨p, hp⟩ := fresh_nat bs
    exact ⟨_, _, _, h p fun h => Nat.lt_irrefl _ (hp p h)⟩

/-- Whatever is listed ahead of i: the others that come up are allocations. -/
def Alone (md : Region.Mode) (ops : Array Oper) (kd : Nat → Kd) (n : Nat) (i : Nat) (listed : Array Bool) : Prop :=
  ∀ listed', HeadInv md ops n listed' → (∀ k, listed.getD k true = true → listed'.getD k true = true) → listed'.getD i true = false → ∀ j ∈ Region.ready md ops listed', j ≠ i → j < n → kd j = .m

theorem WX_first {T : Array Bool → Act → Fs → Prop} {i : Nat} {oi : Oper} (hi : ops[i]? = some oi) (hT : ∀ listed a fs fs', Le fs fs' → T listed a fs → T listed a fs')
    (hsel : ∀ (j : Nat) (o : Oper) cs b, ops[j]? = some o → o.op ≠ .select cs b)
    (hs : sinkE md ops E n = true) (hc : Region.chainB md ops n = true) (hn : n < ops.size) (hin : i < n)
    (hdone : ∀ listed a fs, T listed a fs → ∀ j ∈ rdy md ops n E listed, n ≤ j) (R : Value → World → Prop) (u : Value) :
    ∀ (f : Nat) (listed : Array Bool) (a : Act) (bs : List Nat) (fs : Fs), HeadInv md ops n listed →
      (∀ j oj, ops[j]? = some oj → j ≠ i → listed.getD j true = false → (∀ e ∈ oj.after, Region.binds md e = true → e.on ≠ i) → oi.apart ops oj = true) →
      (kd i = .y ∨ Alone md ops kd n i listed) →
      i ∈ rdy md ops n E listed → At P Pn ops w0 M i oi (kd i) a fs R u →
      Goes w0 M i oi (kd i) (WX P Pn E md ops w0 kd M n T f (listed.setIfInBounds i true)) a bs fs R u → WX P Pn E md ops w0 kd M n T (f + 1) listed a bs fs := by
  intro f
  induction f with
  | zero =>
    intro listed a bs fs inv _ _ hr hy H
    have hun := (mem_ready.1 (mem_rdy.1 hr).1).1
    refine ⟨fun h => (by rw [h] at hr; cases hr), fun j hj => ?_⟩
    have hjn : j < n := by
      rcases Nat.lt_or_ge j n with h | h
      · exact h
      · exact absurd hj (tailE hs hc hn inv _ i rfl hin hun j h)
    refine ⟨hjn, ?_⟩
    by_cases hji : j = i
    · subst hji; exact stp_of hi hy H
    · obtain ⟨_, _, _, h⟩ := H.some
      have := hdone _ _ _ h j (rdy_mono hj hji)
      omega
  | succ f ih =>
    intro listed a bs fs inv hfree hal hr hy H
    have hun := (mem_ready.1 (mem_rdy.1 hr).1).1
    refine ⟨fun h => (by rw [h] at hr; cases hr), fun j hj => ?_⟩
    have hjn : j < n := by
      rcases Nat.lt_or_ge j n with h | h
      · exact h
      · exact absurd hj (tailE hs hc hn inv _ i rfl hin hun j h)
    refine ⟨hjn, ?_⟩
    by_cases hji : j = i
    · subst hji; exact stp_of hi hy H
    · obtain ⟨hjun, oj, hoj, hall⟩ := mem_ready.1 (mem_rdy.1 hj).1
      have hnot : ∀ e ∈ oj.after, Region.binds md e = true → e.on ≠ i := fun e he hb heq => by
        have h1 := hall e he hb
        rw [heq, getD_both hun] at h1
        cases h1
      have hap := hfree j oj hoj hji hjun hnot
      obtain ⟨k1, k2, k3⟩ := Oper.apart_spec hap
      have keep : ∀ v, At P Pn ops w0 M i oi (kd i) (a.put oj.dst v) fs R u := fun v =>
        hy.of_same (execOp_put oi (fun cs b => hsel i oi cs b hi) a oj.dst v k3) (wanted_put oi a oj.dst v k3)
      have hfree' : ∀ k ok, ops[k]? = some ok → k ≠ i → (listed.setIfInBounds j true).getD k true = false →
          (∀ e ∈ ok.after, Region.binds md e = true → e.on ≠ i) → oi.apart ops ok = true := fun k ok hk hki hun hno => by
        refine hfree k ok hk hki ?_ hno
        by_cases hjk : j = k
        · subst hjk; exact hjun
        · rw [getD_set_ne true hjk] at hun; exact hun
      have hal' : kd i = .y ∨ Alone md ops kd n i (listed.setIfInBounds j true) := hal.imp id fun h l' i' m' u' => h l' i' (fun k hk => m' k (by
        by_cases hjk : j = k
        · subst hjk; rcases Nat.lt_or_ge j listed.size with h | h <;> simp [h]
        · rw [getD_set_ne true hjk]; exact hk)) u'
      have inv' := inv.set (mem_rdy.1 hj).1 hjn
      have hr' := rdy_mono hr (Ne.symm hji)
      have back : ∀ (v v' : Value), execOp (a.put oi.dst v).eval oj = execOp a.eval oj ∧ Region.wanted oj (yielded ops (a.put oi.dst v).tmps) = Region.wanted oj (yielded ops a.tmps) :=
        fun v _ => ⟨execOp_put oj (fun cs b => hsel j oj cs b hoj) a oi.dst v k1, wanted_put oj a oi.dst v k1⟩
      have swap : ∀ (v v' : Value) (bs' bs'' : List Nat) (fs' fs'' : Fs), (∀ b ∈ bs', b ∈ bs'') → Le fs' fs'' → WX P Pn E md ops w0 kd M n T f ((listed.setIfInBounds i true).setIfInBounds j true) ((a.put oi.dst v).put oj.dst v') bs' fs' →
          WX P Pn E md ops w0 kd M n T f ((listed.setIfInBounds j true).setIfInBounds i true) ((a.put oj.dst v').put oi.dst v) bs'' fs'' := fun v v' bs' bs'' fs' fs'' hb hl h => by
        rw [Array.setIfInBounds_comm _ _ hji, ← Act.put_comm a v v' k2]
        exact h.mono hT f _ _ _ _ _ _ hb hl
      -- j is an allocation, or i reads
      rcases hal with hky | hal
      · rw [hky] at H hy keep
        have h1 := of_stp hoj (H.2 j (rdy_mono hj hji)).2
        obtain ⟨Rj, uj, hAt, hGo⟩ := h1
        refine stp_of hoj (R := Rj) (u := uj) (hAt.of_same (back u u).1.symm (back u u).2.symm) ?_
        have run : ∀ (v : Value) (bs' : List Nat) (fs' : Fs), Le fs fs' → WX P Pn E md ops w0 kd M n T f ((listed.setIfInBounds i true).setIfInBounds j true) ((a.put oi.dst u).put oj.dst v) bs' fs' → WX P Pn E md ops w0 kd M n T (f + 1) (listed.setIfInBounds j true) (a.put oj.dst v) bs' fs' := by
          intro v bs' fs' hl h
          refine ih _ _ _ _ inv' hfree' hal' hr' (by rw [hky]; exact (keep v).more hl) ?_
          rw [hky]
          exact swap u v bs' bs' fs' fs' (fun _ h => h) (fun _ h => h) h
        revert hGo
        unfold Goes
        cases kd j <;> intro hGo
        · exact run _ _ _ (fun _ h => h) hGo
        · exact fun v => run _ _ _ (fun _ h => List.mem_cons_of_mem _ h) (hGo v)
        · exact fun p hp => run _ _ _ (fun _ h => List.mem_cons_of_mem _ h) (hGo p hp)
      · have hkm : kd j = .m := hal listed inv (fun _ h => h) hun j (mem_rdy.1 hj).1 hji hjn
        have from_i : ∀ v bs' fs', WX P Pn E md ops w0 kd M n T (f + 1) (listed.setIfInBounds i true) (a.put oi.dst v) bs' fs' → Mk P ops oj (M j) a ∧ ∀ q, q ∉ bs' → WX P Pn E md ops w0 kd M n T f ((listed.setIfInBounds i true).setIfInBounds j true) ((a.put oi.dst v).put oj.dst ((M j).2 q)) (q :: bs') (Blk w0 q (M j).1 :: fs') := by
          intro v bs' fs' h
          have h1 := (h.2 j (rdy_mono hj hji)).2
          unfold stp at h1
          simp only [hoj, hkm] at h1
          exact ⟨h1.1.of_same (back v v).1.symm (back v v).2.symm, h1.2⟩
        unfold stp
        simp only [hoj, hkm]
        obtain ⟨v0, b0, f0, h0⟩ := H.some
        refine ⟨(from_i v0 b0 f0 h0).1, fun q hq => ?_⟩
        refine ih _ _ _ _ inv' hfree' hal' hr' ((keep _).more (fun _ h => List.mem_cons_of_mem _ h)) ?_
        revert H
        unfold Goes
        cases kd i <;> intro H
        · exact swap _ _ _ _ _ _ (fun _ h => h) (fun _ h => h) ((from_i _ _ _ H).2 q hq)
        · exact fun v => swap _ _ _ _ _ _ (fun _ h => h) (le_swap _ _) ((from_i _ _ _ (H v)).2 q hq)
        · intro p hp
          refine swap _ _ _ _ _ _ (fun b hb => ?_) (le_swap _ _) ((from_i _ _ _ (H p fun h => hp (List.mem_cons_of_mem _ h))).2 q fun h => ?_)
          · simp only [List.mem_cons] at hb ⊢
            rcases hb with h | h | h
            · exact .inr (.inl h)
            · exact .inl h
            · exact .inr (.inr h)
          · rcases List.mem_cons.1 h with h | h
            · exact hp (h ▸ List.mem_cons_self)
            · exact hq h

/-- The walk in a given order. -/
def wr (P : Program) (Pn : Pnc) (ops : Array Oper) (w0 : World) (M : Nat → Obj × (Nat → Value)) (fin : Act → Fs → Prop) : List (Nat × Kd) → Act → List Nat → Fs → Prop
  | [], a, _, fs => fin a fs
  | (i, .y) :: rest, a, bs, fs => ∃ o, ops[i]? = some o ∧ ∃ v, Y P ops w0 fs o v a ∧ wr P Pn ops w0 M fin rest (a.put o.dst v) bs fs
  | (i, .z) :: rest, a, bs, fs => ∃ o, ops[i]? = some o ∧ ∃ R, Z P Pn ops w0 fs o R a ∧ ∀ v, wr P Pn ops w0 M fin rest (a.put o.dst v) bs (R v :: fs)
  | (i, .m) :: rest, a, bs, fs => ∃ o, ops[i]? = some o ∧ Mk P ops o (M i) a ∧ ∀ p, p ∉ bs → wr P Pn ops w0 M fin rest (a.put o.dst ((M i).2 p)) (p :: bs) (Blk w0 p (M i).1 :: fs)

theorem wr_nil {fin : Act → Fs → Prop} {a : Act} {bs : List Nat} {fs : Fs} (h : fin a fs) : wr P Pn ops w0 M fin [] a bs fs := h
theorem wr_y {fin : Act → Fs → Prop} {a : Act} {bs : List Nat} {fs : Fs} {i : Nat} {o : Oper} {rest : List (Nat × Kd)} (ho : ops[i]? = some o) (hw : Region.wanted o (yielded ops a.tmps) = true)
    (h : ∃ v, (∀ w, Ext w0 w → Holds fs w → up P w v ((execOp a.eval o).run P w)) ∧ wr P Pn ops w0 M fin rest (a.put o.dst v) bs fs) : wr P Pn ops w0 M fin ((i, .y) :: rest) a bs fs :=
  ⟨o, ho, h.choose, .inl ⟨hw, h.choose_spec.1⟩, h.choose_spec.2⟩
theorem wr_skip {fin : Act → Fs → Prop} {a : Act} {bs : List Nat} {fs : Fs} {i : Nat} {o : Oper} {rest : List (Nat × Kd)} (ho : ops[i]? = some o) (hw : Region.wanted o (yielded ops a.tmps) = false)
    (h : wr P Pn ops w0 M fin rest (a.put o.dst undef) bs fs) : wr P Pn ops w0 M fin ((i, .y) :: rest) a bs fs :=
  ⟨o, ho, undef, .inr ⟨hw, rfl⟩, h⟩
theorem wr_z {fin : Act → Fs → Prop} {a : Act} {bs : List Nat} {fs : Fs} {i : Nat} {o : Oper} {rest : List (Nat × Kd)} (R : Value → World → Prop) (ho : ops[i]? = some o) (hw : Region.wanted o (yielded ops a.tmps) = true) (hk : ∀ v, Keeps (R v))
    (h : ∀ w, Ext w0 w → Holds fs w → upR P Pn w R ((execOp a.eval o).run P w)) (k : ∀ v, wr P Pn ops w0 M fin rest (a.put o.dst v) bs (R v :: fs)) : wr P Pn ops w0 M fin ((i, .z) :: rest) a bs fs :=
  ⟨o, ho, R, ⟨hw, hk, h⟩, k⟩
theorem wr_m {fin : Act → Fs → Prop} {a : Act} {bs : List Nat} {fs : Fs} {i : Nat} {o : Oper} {rest : List (Nat × Kd)} (ho : ops[i]? = some o) (hw : Region.wanted o (yielded ops a.tmps) = true)
    (h : ∀ w, (execOp a.eval o).run P w = .ok (.value ((M i).2 w.heap.size)) (w.alloc (M i).1)) (k : ∀ p, p ∉ bs → wr P Pn ops w0 M fin rest (a.put o.dst ((M i).2 p)) (p :: bs) (Blk w0 p (M i).1 :: fs)) : wr P Pn ops w0 M fin ((i, .m) :: rest) a bs fs :=
  ⟨o, ho, ⟨hw, h⟩, k⟩

/-- All that has not been listed, but i, waits for i or for another such operation ahead of it, or is an allocation, or belongs to the tail. -/
def aloneB (md : Region.Mode) (ops : Array Oper) (kd : Nat → Kd) (n : Nat) (listed : Array Bool) (i : Nat) : Bool :=
  (List.range n).all fun j => decide (kd j = .m) || (j == i) || listed.getD j true ||
    (match ops[j]? with | some o => o.after.any fun e => Region.binds md e && (e.on == i || (decide (e.on < j) && !listed.getD e.on true && !decide (kd e.on = .m))) | none => true)

theorem alone_of {listed : Array Bool} {i : Nat} (h : aloneB md ops kd n listed i = true) : Alone md ops kd n i listed := by
  have key : ∀ (j : Nat), j < n → j ≠ i → kd j ≠ .m → listed.getD j true = false → ∀ listed', HeadInv md ops n listed' → listed'.getD i true = false →
      (∀ oj, ops[j]? = some oj → ¬ ∀ e ∈ oj.after, Region.binds md e = true → listed'.getD e.on false = true) := by
    intro j
    induction j using Nat.strongRecOn with
    | _ j ih =>
      intro hjn hji hkj hun listed' inv hui oj hoj hall
      have h1 := List.all_eq_true.1 h j (List.mem_range.2 hjn)
      simp only [hoj, hun, Bool.or_eq_true, decide_eq_true_eq, beq_iff_eq, Bool.false_eq_true, or_false] at h1
      rcases h1 with (h1 | h1) | h1
      · exact hkj h1
      · exact hji h1
      · obtain ⟨e, he, hb⟩ := Array.any_eq_true'.1 h1
        simp only [Bool.and_eq_true, Bool.or_eq_true, beq_iff_eq, decide_eq_true_eq, Bool.not_eq_true', decide_eq_false_iff_not] at hb
        obtain ⟨hbi, hb⟩ := hb
        have hl := hall e he hbi
        rcases hb with hb | ⟨⟨hlt, hune⟩, hme⟩
        · rw [hb, getD_both hui] at hl; cases hl
        · by_cases hei : e.on = i
          · rw [hei, getD_both hui] at hl; cases hl
          · have hes : e.on < ops.size := by
              have h2 := getD_both hune
              rcases Nat.lt_or_ge e.on ops.size with h | h
              · exact h
              · have : listed'.size ≤ e.on := by rw [inv.size]; exact h
                simp [Array.getElem?_eq_none this] at hl
            exact ih e.on hlt (by omega) hei hme hune listed' inv hui (ops[e.on]'hes) (by simp [hes]) (fun e' he' hb' => inv.closed e.on _ (by simp [hes]) hl e' he' hb')
  intro listed' inv mon hui j hj hji hjn
  obtain ⟨hjun, oj, hoj, hall⟩ := mem_ready.1 hj
  by_cases hkj : kd j = .m
  · exact hkj
  · refine absurd hall (key j hjn hji hkj ?_ listed' inv hui oj hoj)
    cases hc : listed.getD j true with
    | false => rfl
    | true => rw [mon j hc] at hjun; cases hjun

def kdOf (s : List (Nat × Kd)) (i : Nat) : Kd := match s.find? (fun x => x.1 == i) with | some x => x.2 | none => .y

def lexR (md : Region.Mode) (ops : Array Oper) (kd : Nat → Kd) (E : List Nat) (n : Nat) : List (Nat × Kd) → Array Bool → Bool
  | [], listed => Region.seqB md ops (ops.size - n) n listed
  | (i, k) :: rest, listed => decide (i < n) && decide (kd i = k) && (rdy md ops n E listed).contains i && Region.free md ops listed i && (decide (k = .y) || aloneB md ops kd n listed i) && lexR md ops kd E n rest (listed.setIfInBounds i true)

theorem WX_lex {T : Array Bool → Act → Fs → Prop} {fin : Act → Fs → Prop} (hT : ∀ listed a fs fs', Le fs fs' → T listed a fs → T listed a fs') (hsel : Region.noSelect ops = true) (hs : sinkE md ops E n = true) (hc : Region.chainB md ops n = true) (hn : n < ops.size)
    (hdone : ∀ listed a fs, T listed a fs → ∀ j ∈ rdy md ops n E listed, n ≤ j)
    (hb : ∀ listed a fs, Region.seqB md ops (ops.size - n) n listed = true → fin a fs → T listed a fs) :
    ∀ (s : List (Nat × Kd)) (listed : Array Bool) (a : Act) (bs : List Nat) (fs : Fs), HeadInv md ops n listed →
    lexR md ops kd E n s listed = true → wr P Pn ops w0 M fin s a bs fs → WX P Pn E md ops w0 kd M n T s.length listed a bs fs
  | [], listed, a, bs, fs, inv, hB, h => hb listed a fs (by simpa [lexR] using hB) h
  | (i, k) :: rest, listed, a, bs, fs, inv, hB, h => by
    simp only [lexR, Bool.and_eq_true, decide_eq_true_eq, Bool.or_eq_true] at hB
    obtain ⟨⟨⟨⟨⟨hin, hk⟩, hr⟩, hf⟩, hal⟩, hB'⟩ := hB
    have hr' : i ∈ rdy md ops n E listed := by simpa using hr
    have next := fun a bs fs h => WX_lex hT hsel hs hc hn hdone hb rest (listed.setIfInBounds i true) a bs fs (inv.set (mem_rdy.1 hr').1 hin) hB' h
    have hal' : kd i = .y ∨ Alone md ops kd n i listed := hal.imp (fun h => hk.trans h) alone_of
    rw [List.length_cons]
    cases k with
    | y =>
      obtain ⟨o, ho, v, hy, hK⟩ := h
      exact WX_first ho hT (Region.noSelect_spec hsel) hs hc hn hin hdone (fun _ _ => True) v _ listed a bs fs inv (Region.free_spec ho hf) hal' hr' (by rw [hk]; exact hy) (by rw [hk]; exact next _ _ _ hK)
    | z =>
      obtain ⟨o, ho, R, hy, hK⟩ := h
      exact WX_first ho hT (Region.noSelect_spec hsel) hs hc hn hin hdone R undef _ listed a bs fs inv (Region.free_spec ho hf) hal' hr' (by rw [hk]; exact hy) (by rw [hk]; exact fun v => next _ _ _ (hK v))
    | m =>
      obtain ⟨o, ho, hy, hK⟩ := h
      exact WX_first ho hT (Region.noSelect_spec hsel) hs hc hn hin hdone (fun _ _ => True) undef _ listed a bs fs inv (Region.free_spec ho hf) hal' hr' (by rw [hk]; exact hy) (by rw [hk]; exact fun p hp => next _ _ _ (hK p hp))

def allR (P : Program) (md : Region.Mode) (ops : Array Oper) (E : List Nat) (s : List (Nat × Kd)) : Bool :=
  Region.noSelect ops && decide (s.length < ops.size) && sinkE md ops E s.length && Region.chainB md ops s.length && eagerB P md ops (kdOf s) E s.length && lexR md ops (kdOf s) E s.length s (Array.replicate ops.size false)

theorem wp_regionG {id : Nat} {Q : Exit → Act → World → Prop} {a : Act} {w : World} {l : List Oper} (E : List Nat) (s : List (Nat × Kd)) (M : Nat → Obj × (Nat → Value)) (Pn : Pnc) (hQ : ∀ c a' w', a'.defers = a.defers → Ext w w' → Pn c w' → Q (.panic c) a' w')
    (hQp : E ≠ [] → ∀ c a d v w, Q (.panic c) (a.put d v) w → Q (.panic c) a w) (hm : P.follows .mixedOrders = true) (hB : allR P .any l.toArray E s = true)
    (h : wr P Pn l.toArray w M (fun a fs => ∀ w', Ext w w' → Holds fs w' → wpList P l.toArray Q (l.drop s.length) a w') s a [] []) : (Code.region id l.toArray true).wp P Q a w := by
  simp only [allR, Bool.and_eq_true, decide_eq_true_eq] at hB
  obtain ⟨⟨⟨⟨⟨hsel, hn⟩, hs⟩, hc⟩, heb⟩, hlex⟩ := hB
  have hn' : s.length < l.length := by simpa using hn
  have hdl : (l.drop s.length).length = l.toArray.size - s.length := by simp
  have inv0 : HeadInv .any l.toArray s.length (Array.replicate l.toArray.size false) :=
    ⟨by simp, fun j oj _ hl => (by rw [getD_replicate_false] at hl; cases hl), fun t _ ht => getD_in (by simpa using ht) (getD_replicate_false _ _)⟩
  let T : Array Bool → Act → Fs → Prop := fun listed a fs => Region.seqB .any l.toArray (l.toArray.size - s.length) s.length listed = true ∧ ∀ w', Ext w w' → Holds fs w' → wpList P l.toArray Q (l.drop s.length) a w'
  have H := WX_lex (P := P) (Pn := Pn) (E := E) (w0 := w) (M := M) (md := .any) (kd := kdOf s) (T := T) (fun _ _ _ _ l h => ⟨h.1, fun w' e hf => h.2 w' e (hf.le l)⟩) hsel hs hc hn (fun listed a fs hT j hj => seqB_ready hT.1 j (mem_rdy.1 hj).1) (fun listed a fs h1 h2 => ⟨h1, h2⟩) s _ a [] [] inv0 hlex h
  refine wp_region_any hm ?_
  have := WX.sound (Q := Q) (g := l.toArray.size - s.length) (fun listed a' fs w' hT hw hF => by
    have := wpAny_of_seq (md := .any) (Q' := Q) (l.drop s.length) s.length listed a' w' (fun j => by simp [List.getElem?_drop]) (by rw [hdl]; exact hT.1) (hT.2 w' hw hF)
    rwa [hdl] at this) hQ (Region.noSelect_spec hsel) heb hQp _ _ _ _ _ { w with drawn := w.drawn + 1 } rfl inv0 H (Ext.drew (Ext.refl w)) (fun b hb => by cases hb) (fun b hb => by cases hb) (fun b hb => by cases hb)
  rw [show s.length + (l.toArray.size - s.length) = l.toArray.size by omega] at this
  exact this

theorem wp_regionP {id : Nat} {Q : Exit → Act → World → Prop} {a : Act} {w : World} {l : List Oper} (s : List (Nat × Kd)) (M : Nat → Obj × (Nat → Value)) (Pn : Pnc) (hQ : ∀ c a' w', a'.defers = a.defers → Ext w w' → Pn c w' → Q (.panic c) a' w') (hm : P.follows .mixedOrders = true) (hB : allR P .any l.toArray [] s = true)
    (h : wr P Pn l.toArray w M (fun a fs => ∀ w', Ext w w' → Holds fs w' → wpList P l.toArray Q (l.drop s.length) a w') s a [] []) : (Code.region id l.toArray true).wp P Q a w :=
  wp_regionG [] s M Pn hQ (fun h => absurd rfl h) hm hB h

theorem wp_region {id : Nat} {Q : Exit → Act → World → Prop} {a : Act} {w : World} {l : List Oper} (s : List (Nat × Kd)) (M : Nat → Obj × (Nat → Value)) (hm : P.follows .mixedOrders = true) (hB : allR P .any l.toArray [] s = true)
    (h : wr P (fun _ _ => False) l.toArray w M (fun a fs => ∀ w', Ext w w' → Holds fs w' → wpList P l.toArray Q (l.drop s.length) a w') s a [] []) : (Code.region id l.toArray true).wp P Q a w :=
  wp_regionP s M _ (fun _ _ _ _ _ h => h.elim) hm hB h

theorem wp_regionE {id : Nat} {Q : Exit → Act → World → Prop} {a : Act} {w : World} {l : List Oper} (E : List Nat) (s : List (Nat × Kd)) (M : Nat → Obj × (Nat → Value)) (hQp : ∀ c a d v w, Q (.panic c) (a.put d v) w → Q (.panic c) a w) (hm : P.follows .mixedOrders = true) (hB : allR P .any l.toArray E s = true)
    (h : wr P (fun _ _ => False) l.toArray w M (fun a fs => ∀ w', Ext w w' → Holds fs w' → wpList P l.toArray Q (l.drop s.length) a w') s a [] []) : (Code.region id l.toArray true).wp P Q a w :=
  wp_regionG E s M _ (fun _ _ _ _ _ h => h.elim) (fun _ => hQp) hm hB h

theorem bodyPost_put {fn : Func} {R : Ending → World → Prop} (c : List PanicEntry) (a : Act) (d : Option Tmp) (v : Value) (w : World) (h : bodyPost P fn R (.panic c) (a.put d v) w) : bodyPost P fn R (.panic c) a w :=
  ⟨(put_defers a d v).symm.trans h.1, h.2⟩

/-- Nothing follows what cannot return. -/
theorem wr_dead {fin : Act → Fs → Prop} (hfin : ∀ a fs, (∃ f ∈ fs, ∀ w, ¬ f w) → fin a fs) : ∀ (s : List (Nat × Kd)) (a : Act) (bs : List Nat) (fs : Fs), (∃ f ∈ fs, ∀ w, ¬ f w) →
    (∀ x ∈ s, ∃ o, ops[x.1]? = some o ∧ (x.2 = .y ∨ (x.2 = .m ∧ ∀ a, Mk P ops o (M x.1) a))) → wr P Pn ops w0 M fin s a bs fs
  | [], a, _, fs, hd, _ => hfin a fs hd
  | (i, k) :: rest, a, bs, fs, hd, hx => by
    obtain ⟨o, ho, hk⟩ := hx (i, k) List.mem_cons_self
    have more : ∀ f, ∃ g ∈ f :: fs, ∀ w, ¬ g w := fun f => hd.imp fun g ⟨h1, h2⟩ => ⟨List.mem_cons_of_mem _ h1, h2⟩
    have hx' := fun x h => hx x (List.mem_cons_of_mem _ h)
    rcases hk with hk | ⟨hk, hmk⟩ <;> simp only at hk <;> subst hk
    · refine ⟨o, ho, undef, ?_, wr_dead hfin rest _ _ _ hd hx'⟩
      unfold Y
      cases Region.wanted o (yielded ops a.tmps)
      · exact .inr ⟨rfl, rfl⟩
      · obtain ⟨f, hf, hno⟩ := hd
        exact .inl ⟨rfl, fun w _ hh => absurd (hh f hf) (hno w)⟩
    · exact ⟨o, ho, hmk a, fun p _ => wr_dead hfin rest _ _ _ (more _) hx'⟩
end
end Go.Proofs.Ytlekdhhgjhakgaa.Rr

namespace Go.Proofs.Ytlekdhhgjhakgaa.Rp
set_option linter.unusedVariables false
set_option linter.unusedSimpArgs false
open Go.RowKit Go.Proofs.Ytlekdhhgjhakgaa Go.Proofs.Ytlekdhhgjhakgaa.Rr
open Go.Proofs.Ytlekdhhgjhakgaa.Rg (lt_of_heap)

def mv (p : List Nat) (o : Oper) : Oper := { o with after := o.after.map (fun e => { e with on := p.idxOf e.on }), guard := o.guard.map (fun g => (p.idxOf g.1, g.2)) }
def perm (p : List Nat) (ops : Array Oper) : Array Oper := (p.map fun i => mv p (ops.getD i default)).toArray
def permB (p : List Nat) (n : Nat) : Bool := decide (p.length = n) && p.all (fun i => decide (i < n)) && decide p.Nodup && (List.range n).all (fun i => p.contains i)

structure Perm (p : List Nat) (n : Nat) : Prop where
  len : p.length = n
  lt : ∀ i ∈ p, i < n
  nodup : p.Nodup
  all : ∀ i, i < n → i ∈ p
theorem permB_spec {p : List Nat} {n : Nat} (h : permB p n = true) : Perm p n := by
  simp only [permB, Bool.and_eq_true, decide_eq_true_eq, List.all_eq_true, List.mem_range, List.contains_iff_mem] at h
  exact ⟨h.1.1.1, h.1.1.2, h.1.2, h.2⟩

section
variable {p : List Nat} {n : Nat}
theorem Perm.idx_lt (h : Perm p n) {i : Nat} (hi : i < n) : p.idxOf i < n := by
  rw [← h.len]; exact List.idxOf_lt_length_of_mem (h.all i hi)
theorem Perm.idx_ge (h : Perm p n) {i : Nat} (hi : n ≤ i) : p.idxOf i = n := by
  rw [← h.len]; exact List.idxOf_eq_length (fun hm => by have := h.lt i hm; omega)
theorem Perm.get_idx (h : Perm p n) {i : Nat} (hi : i < n) : p[p.idxOf i]? = some i := by
  have h1 : p.idxOf i < p.length := by rw [h.len]; exact h.idx_lt hi
  rw [List.getElem?_eq_getElem h1, List.getElem_idxOf h1]
theorem Perm.inj (h : Perm p n) {i j : Nat} (hi : i < n) (hj : j < n) (e : p.idxOf i = p.idxOf j) : i = j := by
  have h1 := h.get_idx hi
  rw [e, h.get_idx hj] at h1
  exact (Option.some.inj h1).symm
theorem Perm.idx_get (h : Perm p n) {j : Nat} (hj : j < n) : ∃ i, i < n ∧ p[j]? = some i ∧ p.idxOf i = j := by
  have hj' : j < p.length := by rw [h.len]; exact hj
  have hlt := h.lt p[j] (List.getElem_mem hj')
  refine ⟨p[j], hlt, List.getElem?_eq_getElem hj', ?_⟩
  have h1 := h.get_idx hlt
  have h2 : p.idxOf p[j] < p.length := by rw [h.len]; exact h.idx_lt hlt
  rw [List.getElem?_eq_getElem h2] at h1
  exact (List.getElem_inj h.nodup).1 (Option.some.inj h1)
end

theorem mv_exec (p : List Nat) (o : Oper) (ρ : Operand → Value) : execOp ρ (mv p o) = execOp ρ o := rfl

section
variable {p : List Nat} {n : Nat} {ops : Array Oper} {md : Region.Mode} {P : Program} {Q : Exit → Act → World → Prop}
theorem get_perm (h : Perm p ops.size) {i : Nat} (hi : i < ops.size) : (perm p ops)[p.idxOf i]? = (ops[i]?).map (mv p) := by
  unfold perm
  rw [List.getElem?_toArray, List.getElem?_map, h.get_idx hi, Option.map_some, Array.getElem?_eq_getElem hi, Option.map_some]
  simp [Array.getD, hi]
theorem size_perm (h : Perm p ops.size) : (perm p ops).size = ops.size := by
  unfold perm; simp [h.len]
theorem yielded_perm (h : Perm p ops.size) (t : Array Value) (j : Nat) : yielded (perm p ops) t (p.idxOf j) = yielded ops t j := by
  unfold yielded
  rcases Nat.lt_or_ge j ops.size with hj | hj
  · rw [get_perm h hj]
    cases ops[j]? <;> rfl
  · rw [h.idx_ge hj, Array.getElem?_eq_none (by rw [size_perm h]; exact Nat.le_refl _), Array.getElem?_eq_none hj]
theorem wanted_perm (h : Perm p ops.size) (t : Array Value) (o : Oper) : Region.wanted (mv p o) (yielded (perm p ops) t) = Region.wanted o (yielded ops t) := by
  unfold Region.wanted mv
  cases o.guard with
  | none => rfl
  | some g => simp only [Option.map_some]; rw [yielded_perm h]

def Rl (p : List Nat) (n : Nat) (l l' : Array Bool) : Prop := l.size = n ∧ l'.size = n ∧ ∀ i, i < n → l'[p.idxOf i]? = l[i]?
theorem Rl.getD {l l' : Array Bool} (h : Perm p n) (r : Rl p n l l') (i : Nat) (b : Bool) : l'.getD (p.idxOf i) b = l.getD i b := by
  obtain ⟨h1, h2, h3⟩ := r
  rw [Array.getD_eq_getD_getElem?, Array.getD_eq_getD_getElem?]
  rcases Nat.lt_or_ge i n with hi | hi
  · rw [h3 i hi]
  · rw [h.idx_ge hi, Array.getElem?_eq_none (by omega), Array.getElem?_eq_none (by omega)]
theorem Rl.set {l l' : Array Bool} (h : Perm p n) (r : Rl p n l l') {i : Nat} (hi : i < n) : Rl p n (l.setIfInBounds i true) (l'.setIfInBounds (p.idxOf i) true) := by
  obtain ⟨h1, h2, h3⟩ := r
  refine ⟨by simpa using h1, by simpa using h2, fun k hk => ?_⟩
  rw [Array.getElem?_setIfInBounds, Array.getElem?_setIfInBounds]
  by_cases e : i = k
  · subst e
    have := h.idx_lt hi
    simp [h1, h2, hi, this]
  · have : p.idxOf i ≠ p.idxOf k := fun e' => e (h.inj hi hk e')
    rw [if_neg this, if_neg e, h3 k hk]

theorem ready_perm (h : Perm p ops.size) {l l' : Array Bool} (r : Rl p ops.size l l') {i : Nat} (hi : i < ops.size) : p.idxOf i ∈ Region.ready md (perm p ops) l' ↔ i ∈ Region.ready md ops l := by
  rw [mem_ready, mem_ready, r.getD h, get_perm h hi]
  refine and_congr_right fun _ => ?_
  cases ho : ops[i]? with
  | none => simp
  | some o =>
    simp only [Option.map_some, Option.some.injEq, exists_eq_left']
    constructor
    · intro h1 e he hb
      have := h1 { e with on := p.idxOf e.on } (by simp only [mv]; exact Array.mem_map.2 ⟨e, he, rfl⟩) hb
      rwa [r.getD h] at this
    · intro h1 e he hb
      simp only [mv] at he
      obtain ⟨e', he', rfl⟩ := Array.mem_map.1 he
      rw [r.getD h]
      exact h1 e' he' hb

theorem ready_lt {l : Array Bool} {i : Nat} (h : i ∈ Region.ready md ops l) : i < ops.size := by
  obtain ⟨_, o, ho, _⟩ := mem_ready.1 h
  exact (Array.getElem?_eq_some_iff.1 ho).1

theorem wpOp_perm (h : Perm p ops.size) {i : Nat} (hi : i < ops.size) {K : Act → World → Prop} {a : Act} {w : World} (hh : wpOp P (perm p ops) Q (p.idxOf i) K a w) : wpOp P ops Q i K a w := by
  unfold wpOp at *
  rw [get_perm h hi] at hh
  cases ho : ops[i]? with
  | none => rw [ho] at hh; exact hh
  | some o =>
    rw [ho] at hh
    simp only [Option.map_some] at hh ⊢
    rw [wanted_perm h] at hh
    exact hh

theorem wpAny_perm (h : Perm p ops.size) : ∀ (f : Nat) (l l' : Array Bool) (a : Act) (w : World), Rl p ops.size l l' → wpAny P md (perm p ops) Q f l' a w → wpAny P md ops Q f l a w
  | 0, l, l', a, w, r, hh => by
    refine ⟨?_, hh.2⟩
    refine List.eq_nil_iff_forall_not_mem.2 fun i hi => ?_
    have := (ready_perm h r (ready_lt hi)).2 hi
    rw [hh.1] at this
    cases this
  | f + 1, l, l', a, w, r, hh => by
    refine ⟨fun h0 => hh.1 (List.eq_nil_iff_forall_not_mem.2 fun j hj => ?_), fun i hi => ?_⟩
    · have hjl := ready_lt hj
      rw [size_perm h] at hjl
      obtain ⟨i, hi, _, rfl⟩ := h.idx_get hjl
      have := (ready_perm h r hi).1 hj
      rw [h0] at this
      cases this
    · have hil := ready_lt hi
      refine wpOp_perm h hil (wpOp_mono (fun a w hk => ?_) (hh.2 _ ((ready_perm h r hil).2 hi)))
      exact wpAny_perm h f _ _ a w (r.set h hil) hk

theorem wpList_perm (h : Perm p ops.size) : ∀ (l : List Oper) (a : Act) (w : World), wpList P ops Q l a w → wpList P (perm p ops) Q (l.map (mv p)) a w
  | [], _, _, hh => hh
  | o :: rest, a, w, hh => by
    rw [List.map_cons]
    unfold wpList at hh ⊢
    rw [wanted_perm h]
    by_cases hw : Region.wanted o (yielded ops a.tmps) = true
    · rw [if_pos hw] at hh ⊢
      exact hh.imp (Oper.wp_mono (fun a w hk => wpList_perm h rest a w hk)) id
    · rw [if_neg hw] at hh ⊢
      exact wpList_perm h rest _ w hh
end

section
variable {P : Program} {ops : Array Oper} {w0 : World} {Pn : Pnc} {p : List Nat} {M : Nat → Obj × (Nat → Value)}
theorem Y_perm (h : Perm p ops.size) {fs : Fs} {o : Oper} {v : Value} {a : Act} (hy : Y P ops w0 fs o v a) : Y P (perm p ops) w0 fs (mv p o) v a := by
  unfold Y at *
  rw [mv_exec, wanted_perm h]
  exact hy
theorem Z_perm (h : Perm p ops.size) {fs : Fs} {o : Oper} {R : Value → World → Prop} {a : Act} (hy : Z P Pn ops w0 fs o R a) : Z P Pn (perm p ops) w0 fs (mv p o) R a := by
  unfold Z at *
  rw [mv_exec, wanted_perm h]
  exact hy
theorem Mk_perm (h : Perm p ops.size) {o : Oper} {m : Obj × (Nat → Value)} {a : Act} (hy : Mk P ops o m a) : Mk P (perm p ops) (mv p o) m a := by
  unfold Mk at *
  rw [mv_exec, wanted_perm h]
  exact hy

def re (p : List Nat) (s : List (Nat × Kd)) : List (Nat × Kd) := s.map fun x => (p.idxOf x.1, x.2)
theorem wr_perm (h : Perm p ops.size) {fin fin' : Act → Fs → Prop} (hf : ∀ a fs, fin a fs → fin' a fs) : ∀ (s : List (Nat × Kd)) (a : Act) (bs : List Nat) (fs : Fs),
    wr P Pn ops w0 M fin s a bs fs → wr P Pn (perm p ops) w0 (fun j => M (p.getD j 0)) fin' (re p s) a bs fs
  | [], a, bs, fs, hh => hf a fs hh
  | (i, k) :: rest, a, bs, fs, hh => by
    have key : ∀ o, ops[i]? = some o → (perm p ops)[p.idxOf i]? = some (mv p o) ∧ p.getD (p.idxOf i) 0 = i := fun o ho => by
      have hi := (Array.getElem?_eq_some_iff.1 ho).1
      exact ⟨by rw [get_perm h hi, ho]; rfl, by rw [List.getD_eq_getElem?_getD, h.get_idx hi]; rfl⟩
    unfold re
    rw [List.map_cons]
    cases k with
    | y =>
      obtain ⟨o, ho, v, hy, hk⟩ := hh
      exact ⟨mv p o, (key o ho).1, v, Y_perm h hy, wr_perm h hf rest _ _ _ hk⟩
    | z =>
      obtain ⟨o, ho, R, hy, hk⟩ := hh
      exact ⟨mv p o, (key o ho).1, R, Z_perm h hy, fun v => wr_perm h hf rest _ _ _ (hk v)⟩
    | m =>
      obtain ⟨o, ho, hy, hk⟩ := hh
      refine ⟨mv p o, (key o ho).1, ?_, fun q hq => ?_⟩
      · simp only [(key o ho).2]; exact Mk_perm h hy
      · simp only [(key o ho).2]; exact wr_perm h hf rest _ _ _ (hk q hq)

def allT (P : Program) (s : List (Nat × Kd)) (tl : List Nat) (E : List Nat) (l : List Oper) : Bool :=
  permB (s.map (·.1) ++ tl) l.length && allR P .any (perm (s.map (·.1) ++ tl) l.toArray) (E.map fun i => (s.map (·.1) ++ tl).idxOf i) (re (s.map (·.1) ++ tl) s)

theorem wpAny_G {Q : Exit → Act → World → Prop} {a : Act} {w : World} {l : List Oper} (E : List Nat) (s : List (Nat × Kd)) (M : Nat → Obj × (Nat → Value)) (Pn : Pnc) (hQ : ∀ c a' w', a'.defers = a.defers → Ext w w' → Pn c w' → Q (.panic c) a' w')
    (hQp : E ≠ [] → ∀ c a d v w, Q (.panic c) (a.put d v) w → Q (.panic c) a w) (hB : allR P .any l.toArray E s = true)
    (h : wr P Pn l.toArray w M (fun a fs => ∀ w', Ext w w' → Holds fs w' → wpList P l.toArray Q (l.drop s.length) a w') s a [] []) : wpAny P .any l.toArray Q l.toArray.size (Array.replicate l.toArray.size false) a { w with drawn := w.drawn + 1 } := by
  simp only [allR, Bool.and_eq_true, decide_eq_true_eq] at hB
  obtain ⟨⟨⟨⟨⟨hsel, hn⟩, hs⟩, hc⟩, heb⟩, hlex⟩ := hB
  have hn' : s.length < l.length := by simpa using hn
  have hdl : (l.drop s.length).length = l.toArray.size - s.length := by simp
  have inv0 : HeadInv .any l.toArray s.length (Array.replicate l.toArray.size false) :=
    ⟨by simp, fun j oj _ hl => (by rw [getD_replicate_false] at hl; cases hl), fun t _ ht => getD_in (by simpa using ht) (getD_replicate_false _ _)⟩
  let T : Array Bool → Act → Fs → Prop := fun listed a fs => Region.seqB .any l.toArray (l.toArray.size - s.length) s.length listed = true ∧ ∀ w', Ext w w' → Holds fs w' → wpList P l.toArray Q (l.drop s.length) a w'
  have H := WX_lex (P := P) (Pn := Pn) (E := E) (w0 := w) (M := M) (md := .any) (kd := kdOf s) (T := T) (fun _ _ _ _ l h => ⟨h.1, fun w' e hf => h.2 w' e (hf.le l)⟩) hsel hs hc hn (fun listed a fs hT j hj => seqB_ready hT.1 j (mem_rdy.1 hj).1) (fun listed a fs h1 h2 => ⟨h1, h2⟩) s _ a [] [] inv0 hlex h
  have := WX.sound (Q := Q) (g := l.toArray.size - s.length) (fun listed a' fs w' hT hw hF => by
    have := wpAny_of_seq (md := .any) (Q' := Q) (l.drop s.length) s.length listed a' w' (fun j => by simp [List.getElem?_drop]) (by rw [hdl]; exact hT.1) (hT.2 w' hw hF)
    rwa [hdl] at this) hQ (Region.noSelect_spec hsel) heb hQp _ _ _ _ _ { w with drawn := w.drawn + 1 } rfl inv0 H (Ext.drew (Ext.refl w)) (fun b hb => by cases hb) (fun b hb => by cases hb) (fun b hb => by cases hb)
  rw [show s.length + (l.toArray.size - s.length) = l.toArray.size by omega] at this
  exact this

/-- As Rr.wp_regionG, the forced operations being those at the places tl. -/
theorem wp_regionG {id : Nat} {Q : Exit → Act → World → Prop} {a : Act} {w : World} {l : List Oper} (E : List Nat) (s : List (Nat × Kd)) (tl : List Nat) (M : Nat → Obj × (Nat → Value)) (Pn : Pnc) (hQ : ∀ c a' w', a'.defers = a.defers → Ext w w' → Pn c w' → Q (.panic c) a' w')
    (hQp : E ≠ [] → ∀ c a d v w, Q (.panic c) (a.put d v) w → Q (.panic c) a w) (hm : P.follows .mixedOrders = true) (hB : allT P s tl E l = true)
    (h : wr P Pn l.toArray w M (fun a fs => ∀ w', Ext w w' → Holds fs w' → wpList P l.toArray Q (tl.filterMap (l[·]?)) a w') s a [] []) : (Code.region id l.toArray true).wp P Q a w := by
  unfold allT at hB
  rw [Bool.and_eq_true] at hB
  obtain ⟨hp, hB⟩ := hB
  generalize hpe : s.map (·.1) ++ tl = p at *
  have hP : Perm p l.toArray.size := by simpa using permB_spec hp
  have htl : ∀ i ∈ tl, i < l.length := fun i hi => by simpa using hP.lt i (by rw [← hpe]; exact List.mem_append_right _ hi)
  have hdrop : (perm p l.toArray).toList.drop (re p s).length = (tl.filterMap (l[·]?)).map (mv p) := by
    unfold perm re
    rw [List.length_map]
    show (p.map _).drop s.length = _
    rw [← List.map_drop, show p.drop s.length = tl by rw [← hpe, List.drop_append_of_le_length (by simp), List.drop_eq_nil_of_le (by simp), List.nil_append]]
    clear hpe hB hp hP h
    induction tl with
    | nil => rfl
    | cons i t ih =>
      have hi := htl i List.mem_cons_self
      rw [List.map_cons, ih (fun j hj => htl j (List.mem_cons_of_mem _ hj)), List.filterMap_cons, List.getElem?_eq_getElem hi]
      simp [Array.getD, hi]
  refine wp_region_any hm ?_
  refine wpAny_perm hP _ (Array.replicate l.toArray.size false) (Array.replicate l.toArray.size false) a _ ⟨by simp, by simp, fun i hi => by rw [Array.getElem?_replicate, Array.getElem?_replicate, if_pos hi, if_pos (hP.idx_lt hi)]⟩ ?_
  have key := wpAny_G (l := (perm p l.toArray).toList) (w := w) (a := a) (Q := Q) (P := P) (E.map fun i => p.idxOf i) (re p s) (fun j => M (p.getD j 0)) Pn hQ (fun hne => hQp (fun h0 => hne (by rw [h0]; rfl))) (by simpa using hB) (by
    rw [hdrop]
    exact wr_perm hP (fun a fs hf w' e hh => wpList_perm hP _ a w' (hf w' e hh)) s a [] [] h)
  have hs := size_perm hP
  simpa [hs] using key
theorem wp_regionT {id : Nat} {Q : Exit → Act → World → Prop} {a : Act} {w : World} {l : List Oper} (s : List (Nat × Kd)) (tl : List Nat) (M : Nat → Obj × (Nat → Value)) (hm : P.follows .mixedOrders = true) (hB : allT P s tl [] l = true)
    (h : wr P (fun _ _ => False) l.toArray w M (fun a fs => ∀ w', Ext w w' → Holds fs w' → wpList P l.toArray Q (tl.filterMap (l[·]?)) a w') s a [] []) : (Code.region id l.toArray true).wp P Q a w :=
  wp_regionG [] s tl M _ (fun _ _ _ _ _ h => h.elim) (fun h => absurd rfl h) hm hB h
theorem wp_regionTE {id : Nat} {Q : Exit → Act → World → Prop} {a : Act} {w : World} {l : List Oper} (E : List Nat) (s : List (Nat × Kd)) (tl : List Nat) (M : Nat → Obj × (Nat → Value)) (hQp : ∀ c a d v w, Q (.panic c) (a.put d v) w → Q (.panic c) a w) (hm : P.follows .mixedOrders = true) (hB : allT P s tl E l = true)
    (h : wr P (fun _ _ => False) l.toArray w M (fun a fs => ∀ w', Ext w w' → Holds fs w' → wpList P l.toArray Q (tl.filterMap (l[·]?)) a w') s a [] []) : (Code.region id l.toArray true).wp P Q a w :=
  wp_regionG E s tl M _ (fun _ _ _ _ _ h => h.elim) (fun _ => hQp) hm hB h
end
end Go.Proofs.Ytlekdhhgjhakgaa.Rp

namespace Go.Proofs.Ytlekdhhgjhakgaa
set_option linter.unusedVariables false
set_option linter.unusedSimpArgs false
open Go.RowKit

theorem addr_add (g j : Nat) : (⟨g, 0, none⟩ : Addr).add j = ⟨g, j, none⟩ := by
  unfold Addr.add
  split
  · rename_i h; rw [h]
  · simp
/-- The slice v reads as xs, each of sz cells. -/
def SR {α : Type} (cs : α → List Value) (sz : Nat) (w : World) (v : Value) (xs : List α) : Prop :=
  ∃ base cap, v = .slice base xs.length cap ∧ xs.length ≤ 1000000 ∧ (xs = [] ∨ ∃ b, base = some ⟨b, 0, none⟩ ∧ ∀ k (h : k < xs.length) j u, (cs xs[k])[j]? = some u → w.cell? ⟨b, k * sz + j, none⟩ = some u)
theorem SR.ext {α : Type} {cs : α → List Value} {sz : Nat} {w w' : World} {v : Value} {xs : List α} (h : SR cs sz w v xs) (e : Ext w w') : SR cs sz w' v xs := by
  obtain ⟨base, cap, h1, h2, h3⟩ := h
  exact ⟨base, cap, h1, h2, h3.imp id fun ⟨b, hb, hc⟩ => ⟨b, hb, fun k hk j u hu => (e.cells.1 _ _ (World.block_lt_of_cell? w _ (hc k hk j u hu))).trans (hc k hk j u hu)⟩⟩
theorem SR.form {α : Type} {cs : α → List Value} {sz : Nat} {w : World} {v : Value} {xs : List α} (h : SR cs sz w v xs) : ∃ base cap, v = .slice base xs.length cap := by
  obtain ⟨base, cap, h1, -⟩ := h
  exact ⟨base, cap, h1⟩
theorem SR.le {α : Type} {cs : α → List Value} {sz : Nat} {w : World} {v : Value} {xs : List α} (h : SR cs sz w v xs) : xs.length ≤ 1000000 := by
  obtain ⟨base, cap, h1, h2, -⟩ := h
  exact h2
/-- The block, where there is an element. -/
theorem SR.block {α : Type} {cs : α → List Value} {sz : Nat} {w : World} {base : Option Addr} {n c : Nat} {xs : List α} (h : SR cs sz w (.slice base n c) xs) (k : Nat) (hk : k < xs.length) :
    ∃ b, base = some ⟨b, 0, none⟩ ∧ n = xs.length ∧ ∀ k (h : k < xs.length) j u, (cs xs[k])[j]? = some u → w.cell? ⟨b, k * sz + j, none⟩ = some u := by
  obtain ⟨base', cap, h1, h2, h3⟩ := h
  injection h1 with e1 e2 e3
  subst e1 e2
  obtain ⟨b, hb, hc⟩ := h3.resolve_left (by intro e; rw [e] at hk; simp at hk)
  exact ⟨b, hb, rfl, hc⟩
theorem flat_get {α : Type} {cs : α → List Value} {sz : Nat} : ∀ (us : List α) (_ : ∀ x ∈ us, (cs x).length = sz) (k : Nat) (h : k < us.length) (j : Nat) (u : Value), (cs us[k])[j]? = some u → (us.flatMap cs)[k * sz + j]? = some u
  | x :: us, hl, 0, h, j, u, hu => by
    have hj : j < (cs x).length := (List.getElem?_eq_some_iff.1 hu).1
    rw [List.flatMap_cons, List.getElem?_append_left (by omega), Nat.zero_mul, Nat.zero_add]
    exact hu
  | x :: us, hl, k + 1, h, j, u, hu => by
    have h1 := hl x List.mem_cons_self
    have h2 : (k + 1) * sz = k * sz + sz := Nat.succ_mul k sz
    rw [List.flatMap_cons, List.getElem?_append_right (by omega), show (k + 1) * sz + j - (cs x).length = k * sz + j by omega]
    exact flat_get us (fun y hy => hl y (List.mem_cons_of_mem _ hy)) k (by simpa using h) j u hu
theorem SR.of_row {α : Type} {cs : α → List Value} {sz : Nat} (hl : ∀ x, (cs x).length = sz) {B E : Nat} {w : World} {v : Value} {xs : List α} (h : w.ownsRow B E sz v xs.length (xs.flatMap cs)) (hn : xs.length ≤ 1000000) : SR cs sz w v xs := by
  by_cases h0 : xs = []
  · subst h0
    rcases h.2 with ⟨hn, -⟩ | ⟨g, cap, cur, hv, -⟩
    · exact ⟨none, 0, hn, by simp, .inl rfl⟩
    · exact ⟨_, cap, hv, by simp, .inl rfl⟩
  · have hp : 0 < xs.length := List.length_pos_iff.2 h0
    obtain ⟨g, cap, rfl, -, hlt⟩ := h.form hp
    refine ⟨_, cap, rfl, hn, .inr ⟨g, rfl, fun k hk j u hu => ?_⟩⟩
    have h1 := flat_get xs (fun x _ => hl x) k hk j u hu
    rw [h.cellAt (k * sz + j) (by rw [← h.1]; exact (List.getElem?_eq_some_iff.1 h1).1)]
    exact h1
theorem row_ext {B E sz n : Nat} {w w' : World} {v : Value} {xs : List Value} (ho : w.ownsRow B E sz v n xs) (e : Ext w w') : w'.ownsRow B E sz v n xs := by
  refine ⟨ho.1, ?_⟩
  rcases ho.2 with hn | ⟨g, cap, cur, hv, hb, hg, rest⟩
  · exact .inl hn
  · exact .inr ⟨g, cap, cur, hv, hb, (e.block g (Rg.lt_of_heap hg)).trans hg, rest⟩

/-- 'append' of one element, which lies in a block of its own. -/
theorem append_one {α : Type} {cs : α → List Value} {sz : Nat} (hl : ∀ x, (cs x).length = sz ∧ ∀ c ∈ cs x, c.oneCell' = true) (T E bytes : Nat) {z : Value} (hT : Try.prog.underlying T = some (.slice E))
    (hinfo : (Try.prog.info? E).map (fun i => (i.zero, i.size, i.bytes)) = some (some z, sz, bytes)) (hz : z.cells.size = sz) (h0 : 0 < sz) (hby : bytes ≤ 100000)
    {ops : Array Oper} {rest : List Oper} {o : Oper} {a : Act} {Q : Exit → Act → World → Prop} {w : World} (hgd : o.guard = none) (s x : Operand)
    (ho : o.op = .call { callee := .builtin .append, args := #[s, x], argTypes := #[T, T] }) (B : Nat) (v : Value) (vs : List α) (hs : a.eval s = v) (hF : w.ownsRow B E sz v vs.length (vs.flatMap cs))
    (p : Nat) (u : α) (hx : a.eval x = .slice (some ⟨p, 0, none⟩) 1 1) (hp : w.heap[p]? = some (.cells (cs u).toArray E)) (hn : vs.length < 1000000) (hB : B ≤ w.heap.size)
    (h : ∀ g cap w', w'.ownsRow B E sz (.slice (some ⟨g, 0, none⟩) (vs.length + 1) cap) (vs ++ [u]).length ((vs ++ [u]).flatMap cs) → Below B w w' → wpList Try.prog ops Q rest (a.put o.dst (.slice (some ⟨g, 0, none⟩) (vs.length + 1) cap)) w') : wpList Try.prog ops Q (o :: rest) a w := by
  obtain ⟨i0, hi, hz0, hz1, hz2⟩ := info_parts hinfo
  refine wpList_append_lies w hgd s x T ho B E i0 _ sz bytes hT hi hz0 hz1 hz2 hz h0 v vs.length _ hs hF ⟨p, 0, none⟩ 1 1 (cs u) hx (by rw [(hl u).1, Nat.one_mul]) ?_ (hl u).2 (by decide) (by unfold maxLen; omega) ?_ hB w.heap.size rfl ?_
  · intro j c hc
    rw [addr_add, cell_of_row w p _ _ _ _ hp]
    simpa using hc
  · have : (vs.length + 1) * bytes ≤ 1000000 * 100000 := Nat.mul_le_mul (by omega) hby
    omega
  · intro g cap w' hw hg hat hlt
    refine h g cap w' ?_ ⟨hg.os, hg.tape, hg.output, hg.size, fun k hk => hg.block k (by omega) ?_⟩
    · rw [List.flatMap_append, List.length_append]
      simpa using hw
    · intro e
      have := (hF.lt k e.symm).1
      omega

theorem append_u {α : Type} {cs : α → List Value} {sz : Nat} (T E bytes : Nat) {z : Value} (hT : Try.prog.underlying T = some (.slice E))
    (hinfo : (Try.prog.info? E).map (fun i => (i.zero, i.size, i.bytes)) = some (some z, sz, bytes)) (hz : z.cells.size = sz) (h0 : 0 < sz) (hby : bytes ≤ 100000)
    {ops : Array Oper} {rest : List Oper} {o : Oper} {a : Act} {Q : Exit → Act → World → Prop} {w : World} (hgd : o.guard = none) (s x : Operand)
    (ho : o.op = .call { callee := .builtin .append, args := #[s, x], argTypes := #[T, T] }) (B : Nat) (v : Value) (vs : List α) (hs : a.eval s = v) (hF : w.ownsRow B E sz v vs.length (vs.flatMap cs))
    (p : Nat) (u : α) (hl : (cs u).length = sz ∧ ∀ c ∈ cs u, c.oneCell' = true) (hx : a.eval x = .slice (some ⟨p, 0, none⟩) 1 1) (hp : w.heap[p]? = some (.cells (cs u).toArray E)) (hn : vs.length < 1000000) (hB : B ≤ w.heap.size)
    (h : ∀ g cap w', w'.ownsRow B E sz (.slice (some ⟨g, 0, none⟩) (vs.length + 1) cap) (vs ++ [u]).length ((vs ++ [u]).flatMap cs) → Below B w w' → wpList Try.prog ops Q rest (a.put o.dst (.slice (some ⟨g, 0, none⟩) (vs.length + 1) cap)) w') : wpList Try.prog ops Q (o :: rest) a w := by
  obtain ⟨i0, hi, hz0, hz1, hz2⟩ := info_parts hinfo
  refine wpList_append_lies w hgd s x T ho B E i0 _ sz bytes hT hi hz0 hz1 hz2 hz h0 v vs.length _ hs hF ⟨p, 0, none⟩ 1 1 (cs u) hx (by rw [hl.1, Nat.one_mul]) ?_ hl.2 (by decide) (by unfold maxLen; omega) ?_ hB w.heap.size rfl ?_
  · intro j c hc
    rw [addr_add, cell_of_row w p _ _ _ _ hp]
    simpa using hc
  · have : (vs.length + 1) * bytes ≤ 1000000 * 100000 := Nat.mul_le_mul (by omega) hby
    omega
  · intro g cap w' hw hg hat hlt
    refine h g cap w' ?_ ⟨hg.os, hg.tape, hg.output, hg.size, fun k hk => hg.block k (by omega) ?_⟩
    · rw [List.flatMap_append, List.length_append]
      simpa using hw
    · intro e
      have := (hF.lt k e.symm).1
      omega

/-- The slice v holds the ints, below the block B. -/
def IRd (w : World) (v : Value) (ls : List Int) : Prop :=
  ∃ A cap, v = .slice A ls.length cap ∧ ls.length ≤ 9223372036854775807 ∧ (∀ z ∈ ls, -9223372036854775808 ≤ z ∧ z ≤ 9223372036854775807) ∧
    (ls = [] ∨ ∃ b off, A = some ⟨b, off, none⟩ ∧ ∀ k (h : k < ls.length), w.cell? ⟨b, off + k, none⟩ = some (.int .i64 ls[k]))
theorem IRd.ext {w w' : World} {v : Value} {ls : List Int} (h : IRd w v ls) (e : Ext w w') : IRd w' v ls := by
  obtain ⟨A, cap, h1, h2, h3, h4⟩ := h
  exact ⟨A, cap, h1, h2, h3, h4.imp id fun ⟨b, off, ha, hc⟩ => ⟨b, off, ha, fun k hk => (e.cells.1 _ _ (World.block_lt_of_cell? w _ (hc k hk))).trans (hc k hk)⟩⟩

theorem up_row {ρ : Operand → Value} {d : Option Tmp} {x : Operand} {ty : TypeId} {ps : String} {af : Array Edge} {gd : Option (Nat × Bool)} {w : World} {g : Nat} {T t : TypeId} {cs : Array Value} {fs : Array Field} {fr : Nat × Nat}
    (hx : ρ x = .pointer (some ⟨g, 0, none⟩)) (hg : w.heap[g]? = some (.cells cs t fr))
    (hu : Try.prog.underlying T = some (.struct fs)) (hi : (Try.prog.info? T).map (·.size) = some cs.size) :
    Rg.up Try.prog w (.agg cs) ((execOp ρ { dst := d, op := .load T x, type := ty, pos := ps, after := af, guard := gd }).run Try.prog w) := by
  have h := run_loadVar_row (P := Try.prog) w g t T cs _ (.struct fs) hg hu rfl hi
  unfold execOp
  simp only [hx, Instr.loadAt, Instr.sureAddr, Sem.run_bind, Sem.run_pure, Result.andThen_ok, h]
  exact Rg.up_value
theorem wpList_store_row {ops : Array Oper} {rest : List Oper} {o : Oper} {a : Act} {w : World} {Q : Exit → Act → World → Prop} (hgd : o.guard = none) (T : TypeId) (x y : Operand) (ho : o.op = .store T x y)
    (g : Nat) (hx : a.eval x = .pointer (some ⟨g, 0, none⟩)) (cs : Array Value) (hy : a.eval y = .agg cs) (old : Array Value) (t : TypeId) (hg : w.heap[g]? = some (.cells old t (0, 0))) (hl : old.size = cs.size)
    (hi : (Try.prog.info? T).map (·.size) = some cs.size) (h1 : ∀ v ∈ cs.toList, v.oneCell' = true)
    (h : wpList Try.prog ops Q rest (a.put o.dst undef) (w.setRow g cs)) : wpList Try.prog ops Q (o :: rest) a w := by
  refine wpList_plain hgd fun K hK => ?_
  have hr := run_storeCells_at (P := Try.prog) g 0 t cs.toList 0 old w hg (by simp; omega) h1
  have he : (old.toList.take (0 + 0) ++ cs.toList ++ old.toList.drop (0 + 0 + cs.toList.length)).toArray = cs := by
    rw [List.drop_eq_nil_of_le (by simp; omega)]; simp
  rw [he] at hr
  unfold Oper.wp execOp
  have hs : (Go.sizeOf T).run Try.prog w = .ok cs.size w := by
    cases hq : Try.prog.info? T with
    | none => simp [hq] at hi
    | some i =>
      have hs : i.size = cs.size := by simpa [hq] using hi
      simp [sizeOf, typeInfo, hq, hs]
  have hst : (storeVar T ⟨g, 0, none⟩ (.agg cs)).run Try.prog w = .ok () (w.setRow g cs) := by
    unfold storeVar
    simp only [Value.cells, Sem.run_bind, hs, Result.andThen_ok, ne_eq, not_true_eq_false, if_false]
    exact hr
  simp only [ho, hx, hy, Instr.storeAt, Instr.sureAddr, Sem.run_bind, Sem.run_pure, Result.andThen_ok, hst]
  exact hK _ _ h

end Go.Proofs.Ytlekdhhgjhakgaa

namespace Go.Proofs.Ytlekdhhgjhakgaa
set_option linter.unusedVariables false
set_option linter.unusedSimpArgs false
open Go.RowKit

def iof : Value → Int
  | .int _ z => z
  | _ => 0
theorem heap_setCell_row {w : World} {g o : Nat} {cs : Array Value} {t : TypeId} {fr : Nat × Nat} (v : Value) (hg : w.heap[g]? = some (.cells cs t fr)) : (w.setCell ⟨g, o, none⟩ v).heap[g]? = some (.cells (cs.setIfInBounds o v) t fr) := by
  have hlt := (Array.getElem?_eq_some_iff.1 hg).1
  simp [World.setCell, Array.getElem?_modify, hg]
theorem heap_setCell_other {w : World} {g k o : Nat} (v : Value) (h : k ≠ g) : (w.setCell ⟨g, o, none⟩ v).heap[k]? = w.heap[k]? := RowKit.Below.heap_setCell _ _ _ _ h
theorem alloc_at (w : World) (o : Obj) : (w.alloc o).heap[w.heap.size]? = some o := by show (w.heap.push o)[w.heap.size]? = _; simp
theorem alloc_old {w : World} (o : Obj) {k : Nat} (h : k < w.heap.size) : (w.alloc o).heap[k]? = w.heap[k]? := Below.heap_alloc w o k h
theorem two_blocks (w : World) (o1 o2 : Obj) : ((w.alloc o1).alloc o2).heap[w.heap.size]? = some o1 ∧ ((w.alloc o1).alloc o2).heap[w.heap.size + 1]? = some o2 := by
  refine ⟨by rw [alloc_old _ (by simp), alloc_at], ?_⟩
  have := alloc_at (w.alloc o1) o2
  simpa using this
end Go.Proofs.Ytlekdhhgjhakgaa

namespace Go.Proofs.Ytlekdhhgjhakgaa
set_option linter.unusedVariables false
set_option linter.unusedSimpArgs false
open Go.RowKit
set_option maxRecDepth 100000

/-- An int of the machine. -/
def OkI (a : Int) : Prop := -9223372036854775808 ≤ a ∧ a ≤ 9223372036854775807
theorem OkI.wf {a : Int} (h : OkI a) : (Lit.int .i64 a).wf = true := by
  obtain ⟨h1, h2⟩ := h
  simp [Lit.wf, IntKind.min, IntKind.max, IntKind.signed, IntKind.bits]
  omega
theorem okI_small {a : Int} (h : -1000000 ≤ a ∧ a ≤ 1000000) : OkI a := ⟨by omega, by omega⟩
abbrev encI (i : Int) : Value := .int .i64 i
theorem keI : KE Try.prog 3 encI OkI := ⟨Go.Maps.int_keyed Try.underlying3, fun a b h => by injection h, fun a h => ⟨_, Go.Maps.keyOf_int_mk Try.underlying3 h.wf⟩⟩
@[simp] theorem iof_int (k : IntKind) (n : Int) : iof (.int k n) = n := rfl
/-- A map of bools, at b, that answers as f. -/
def BM (w : World) (b : Nat) (f : Int → Bool) : Prop := ∃ l, MP encI OkI w b l ∧ (∀ p ∈ l, ∃ c, p.2 = .bool c) ∧ ∀ x, (l.lookup x).getD (.bool false) = .bool (f x)
theorem BM.of_block {w w' : World} {b : Nat} {f : Int → Bool} (h : BM w b f) (hb : w'.heap[b]? = w.heap[b]?) : BM w' b f := by
  obtain ⟨l, h1, h2⟩ := h
  exact ⟨l, h1.of_block hb, h2⟩
theorem BM.lt {w : World} {b : Nat} {f : Int → Bool} (h : BM w b f) : b < w.heap.size := by
  obtain ⟨l, h1, -⟩ := h
  exact h1.lt
theorem BM.ext {w w' : World} {b : Nat} {f : Int → Bool} (h : BM w b f) (x : Ext w w') : BM w' b f := h.of_block (x.block _ h.lt)
theorem BM.kept {w w' : World} {b : Nat} {f : Int → Bool} {row : Option Nat} (h : BM w b f) (x : w.grownBy w' row) (hne : some b ≠ row) : BM w' b f := h.of_block (x.block b h.lt hne)
theorem BM.made (w : World) : BM (w.alloc (.map #[] 0)) w.heap.size fun _ => false := ⟨[], MP.made w, by simp, fun _ => rfl⟩
theorem BM.congr {w : World} {b : Nat} {f g : Int → Bool} (h : BM w b f) (hfg : ∀ x, f x = g x) : BM w b g := by
  obtain ⟨l, h1, h2, h3⟩ := h
  exact ⟨l, h1, h2, fun x => by rw [h3, hfg]⟩
def setF (f : Int → Bool) (x : Int) (c : Bool) : Int → Bool := fun y => if y = x then c else f y
theorem BM.look {w : World} {b : Nat} {f : Int → Bool} (h : BM w b f) {x : Int} (hx : OkI x) (wz : World) (hz : wz.heap[b]? = w.heap[b]?) : (Instr.lookup 66 (.map (some b)) (.int .i64 x) false).run Try.prog wz = .ok (.bool (f x)) wz := by
  obtain ⟨l, h1, h2, h3⟩ := h
  have := MP.look keI Try.underlying66 (z := .bool false) (by rfl) (h1.of_block hz) hx false
  rw [if_neg (by decide), h3] at this
  exact this
theorem putL_bool {l : List (Int × Value)} {x : Int} {c : Bool} (h : ∀ p ∈ l, ∃ c, p.2 = .bool c) : ∀ p ∈ putL l x (.bool c), ∃ c, p.2 = .bool c := by
  intro p hp
  unfold putL at hp
  split at hp
  · obtain ⟨q, hq, rfl⟩ := List.mem_map.1 hp
    split
    · exact ⟨c, rfl⟩
    · exact h q hq
  · rcases List.mem_append.1 hp with hp | hp
    · exact h p hp
    · rw [List.mem_singleton] at hp
      subst hp
      exact ⟨c, rfl⟩
theorem BM.put {w : World} {b : Nat} {f : Int → Bool} (h : BM w b f) {x : Int} (hx : OkI x) (c : Bool) :
    ∃ w', (Instr.mapUpdate 66 (.map (some b)) (.int .i64 x) (.bool c)).run Try.prog w = .ok () w' ∧ BM w' b (setF f x c) ∧ w.grownBy w' (some b) := by
  obtain ⟨l, h1, h2, h3⟩ := h
  obtain ⟨w', hr, hm, hg⟩ := MP.update keI Try.underlying66 h1 hx (.bool c)
  refine ⟨w', hr, ⟨_, hm, putL_bool h2, fun y => ?_⟩, hg⟩
  rw [lookup_put]
  unfold setF
  split
  · rfl
  · exact h3 y
section
variable {ops : Array Oper} {rest : List Oper} {o : Oper} {a : Act} {Q : Exit → Act → World → Prop} {w : World}
theorem wpList_insB (hg : o.guard = none) (m x v : Operand) (hop : o.op = Op.insert 66 m x v) (b : Nat) (f : Int → Bool) (hm : a.eval m = .map (some b)) (h : BM w b f) (k : Int) (hx : a.eval x = .int .i64 k) (hk : OkI k) (c : Bool) (hv : a.eval v = .bool c)
    (hK : ∀ w', BM w' b (setF f k c) → w.grownBy w' (some b) → wpList Try.prog ops Q rest (a.put o.dst undef) w') : wpList Try.prog ops Q (o :: rest) a w := by
  refine wpList_plain hg fun K' hK' => ?_
  obtain ⟨w', hrun, r1, r2⟩ := h.put hk c
  unfold Oper.wp
  simp [execOp, hop, hm, hx, hv, hrun, Result.andThen]
  exact hK' _ _ (hK w' r1 r2)
theorem wpList_putB (hg : o.guard = none) (m x v : Operand) (hop : o.op = Op.mapUpdate 66 m x v) (b : Nat) (f : Int → Bool) (hm : a.eval m = .map (some b)) (h : BM w b f) (k : Int) (hx : a.eval x = .int .i64 k) (hk : OkI k) (c : Bool) (hv : a.eval v = .bool c)
    (hK : ∀ w', BM w' b (setF f k c) → w.grownBy w' (some b) → wpList Try.prog ops Q rest (a.put o.dst undef) w') : wpList Try.prog ops Q (o :: rest) a w := by
  refine wpList_plain hg fun K' hK' => ?_
  obtain ⟨w', hrun, r1, r2⟩ := h.put hk c
  unfold Oper.wp
  simp [execOp, hop, hm, hx, hv, hrun, Result.andThen]
  exact hK' _ _ (hK w' r1 r2)
end
/-- What is no map stays where a map is written. -/
theorem grown_row {w w' : World} {b g : Nat} {f : Int → Bool} {cs : Array Value} {t : TypeId} {fr : Nat × Nat} (h : BM w b f) (x : w.grownBy w' (some b)) (hg : w.heap[g]? = some (.cells cs t fr)) : w'.heap[g]? = some (.cells cs t fr) := by
  refine (x.block g (Rg.lt_of_heap hg) (fun e => ?_)).trans hg
  injection e with e
  subst e
  obtain ⟨l, h1, -⟩ := h
  obtain ⟨es, ck, hb, -⟩ := h1.2.2
  rw [hb] at hg
  cases hg
theorem grown_low {w0 w w' : World} {b : Nat} (h : Ext w0 w) (hb : w0.heap.size ≤ b) (x : w.grownBy w' (some b)) : Ext w0 w' :=
  Below.trans h ⟨x.os, x.tape, x.output, x.size, fun k hk => x.block k (by have := h.size; omega) (by simp; omega)⟩
def Pe.cs (p : Pe) : List Value := [.int .i64 p.id, .int .i64 p.role, .int .i64 p.pub]
def Ho.cs (h : Ho) : List Value := [.int .i64 h.per, .int .i64 h.bid, .int .i64 h.pct]
def reC (r : Int × Int) : List Value := [.int .i64 r.1, .int .i64 r.2]
/-- All numbers of a setup are ints, and its lists are short. -/
structure Su.ok (s : Su) : Prop where
  ps : ∀ p ∈ s.ps, OkI p.id ∧ OkI p.role ∧ OkI p.pub
  hs : ∀ h ∈ s.hs, OkI h.per ∧ OkI h.bid ∧ OkI h.pct
  rs : ∀ r ∈ s.rs, OkI r.1 ∧ OkI r.2
  np : s.ps.length ≤ 1000
  nh : s.hs.length ≤ 1000
  nr : s.rs.length ≤ 1000
/-- A setup: the value of the struct. -/
structure SuV (w : World) (c0 c1 c2 c3 c4 c5 : Value) (s : Su) : Prop where
  ps : SR Pe.cs 3 w c0 s.ps
  hs : SR Ho.cs 3 w c2 s.hs
  rs : SR reC 2 w c3 s.rs
  q : ∃ q, c1 = .int .i64 q
  se : ∃ q, c4 = .int .i64 q
  lb : ∃ q, c5 = .int .i64 q
  ok : s.ok
theorem SuV.ext {w w' : World} {c0 c1 c2 c3 c4 c5 : Value} {s : Su} (h : SuV w c0 c1 c2 c3 c4 c5 s) (x : Ext w w') : SuV w' c0 c1 c2 c3 c4 c5 s := ⟨h.ps.ext x, h.hs.ext x, h.rs.ext x, h.q, h.se, h.lb, h.ok⟩
theorem re_at {w : World} {base : Option Addr} {n c : Nat} {l : List (Int × Int)} (h : SR reC 2 w (.slice base n c) l) (k : Nat) (hk : k < l.length) :
    ∃ b, base = some ⟨b, 0, none⟩ ∧ b < w.heap.size ∧ w.cell? ⟨b, k * 2, none⟩ = some (.int .i64 l[k].1) ∧ w.cell? ⟨b, k * 2 + 1, none⟩ = some (.int .i64 l[k].2) := by
  obtain ⟨b, h1, h2, h3⟩ := h.block k hk
  have h4 := h3 k hk 0 _ rfl
  exact ⟨b, h1, World.block_lt_of_cell? w _ h4, h4, h3 k hk 1 _ rfl⟩
theorem ho_at {w : World} {base : Option Addr} {n c : Nat} {l : List Ho} (h : SR Ho.cs 3 w (.slice base n c) l) (k : Nat) (hk : k < l.length) :
    ∃ b, base = some ⟨b, 0, none⟩ ∧ b < w.heap.size ∧ w.cell? ⟨b, k * 3, none⟩ = some (.int .i64 l[k].per) ∧ w.cell? ⟨b, k * 3 + 1, none⟩ = some (.int .i64 l[k].bid) ∧ w.cell? ⟨b, k * 3 + 2, none⟩ = some (.int .i64 l[k].pct) := by
  obtain ⟨b, h1, h2, h3⟩ := h.block k hk
  have h4 := h3 k hk 0 _ rfl
  exact ⟨b, h1, World.block_lt_of_cell? w _ h4, h4, h3 k hk 1 _ rfl, h3 k hk 2 _ rfl⟩
theorem pe_at {w : World} {base : Option Addr} {n c : Nat} {l : List Pe} (h : SR Pe.cs 3 w (.slice base n c) l) (k : Nat) (hk : k < l.length) :
    ∃ b, base = some ⟨b, 0, none⟩ ∧ b < w.heap.size ∧ w.cell? ⟨b, k * 3, none⟩ = some (.int .i64 l[k].id) ∧ w.cell? ⟨b, k * 3 + 1, none⟩ = some (.int .i64 l[k].role) ∧ w.cell? ⟨b, k * 3 + 2, none⟩ = some (.int .i64 l[k].pub) := by
  obtain ⟨b, h1, h2, h3⟩ := h.block k hk
  have h4 := h3 k hk 0 _ rfl
  exact ⟨b, h1, World.block_lt_of_cell? w _ h4, h4, h3 k hk 1 _ rfl, h3 k hk 2 _ rfl⟩
end Go.Proofs.Ytlekdhhgjhakgaa

namespace Go.Proofs.Ytlekdhhgjhakgaa
set_option linter.unusedVariables false
set_option linter.unusedSimpArgs false
open Go.RowKit
/-- Related by one of the first i relations. -/
def nxtF (rs : List (Int × Int)) (f : Int → Bool) (x : Int) : Bool := rs.any fun r => (r.1 == x && f r.2) || (r.2 == x && f r.1)
theorem nxtF_snoc (rs : List (Int × Int)) (f : Int → Bool) (r : Int × Int) (x : Int) : nxtF (rs ++ [r]) f x = setF (setF (nxtF rs f) r.1 (nxtF rs f r.1 || f r.2)) r.2 (setF (nxtF rs f) r.1 (nxtF rs f r.1 || f r.2) r.2 || f r.1) x := by
  have h : nxtF (rs ++ [r]) f x = (nxtF rs f x || ((r.1 == x && f r.2) || (r.2 == x && f r.1))) := by
    unfold nxtF
    rw [List.any_append]
    simp
  rw [h]
  unfold setF
  by_cases h1 : x = r.2
  · subst h1
    by_cases h2 : r.2 = r.1
    · simp [h2]
    · have : (r.1 == r.2) = false := by simpa using fun e => h2 e.symm
      simp [h2, this]
  · by_cases h2 : x = r.1
    · subst h2
      have : (r.2 == r.1) = false := by simpa using fun e => h1 e.symm
      simp [h1, this]
    · have e1 : (r.1 == x) = false := by simpa using fun e => h2 e.symm
      have e2 : (r.2 == x) = false := by simpa using fun e => h1 e.symm
      simp [h1, h2, e1, e2]
/-- What is in while the new ones are taken over. -/
def midF (f nx : Int → Bool) (left : List (Int × Value)) (x : Int) : Bool := f x || (nx x && decide (x ∉ left.map (·.1)))
theorem midF_start {f nx : Int → Bool} {L : List (Int × Value)} (h : ∀ x, (L.lookup x).getD (.bool false) = .bool (nx x)) (x : Int) : midF f nx L x = f x := by
  unfold midF
  cases hx : nx x
  · simp
  · have h1 := h x
    rw [hx] at h1
    have : x ∈ L.map (·.1) := by
      refine Decidable.byContradiction fun hn => ?_
      rw [lookup_none.2 hn] at h1
      cases h1
    simp only [decide_eq_false (not_not_intro this)]
    simp
theorem midF_end (f nx : Int → Bool) (x : Int) : midF f nx [] x = (f x || nx x) := by simp [midF]
theorem midF_step {f nx : Int → Bool} {pre post : List (Int × Value)} {x : Int} {v : Value} (hn : ((pre ++ (x, v) :: post).map (·.1)).Nodup) (y : Int) :
    setF (midF f nx (pre ++ (x, v) :: post)) x (midF f nx (pre ++ (x, v) :: post) x || nx x) y = midF f nx (pre ++ post) y := by
  rw [List.map_append, List.map_cons, List.nodup_append, List.nodup_cons] at hn
  have hx : x ∉ (pre ++ post).map (·.1) := fun hm => by
    rw [List.map_append, List.mem_append] at hm
    rcases hm with hm | hm
    · exact hn.2.2 x hm x List.mem_cons_self rfl
    · exact hn.2.1.1 hm
  unfold setF midF
  by_cases e : y = x
  · subst e
    rw [if_pos rfl, decide_eq_true hx, decide_eq_false (by simp)]
    cases f y <;> cases nx y <;> rfl
  · rw [if_neg e]
    congr 2
    rw [decide_eq_decide]
    simp [List.mem_append, e]
def cirK (rs : List (Int × Int)) (p : Int) : Nat → Int → Bool
  | 0 => fun x => x == p
  | j + 1 => stepC rs (cirK rs p j)
set_option maxRecDepth 100000 in
set_option maxHeartbeats 8000000 in
theorem circle_any (c0 c1 c2 c3 c4 c5 : Value) (s : Su) (p : Int) (w : World) (h : SuV w c0 c1 c2 c3 c4 c5 s) (hp : OkI p) :
    Calls Try.prog 29 #[.agg #[c0, c1, c2, c3, c4, c5], .int .i64 p] w fun e w' => ∃ b, e = .returned (.map (some b)) ∧ BM w' b (cirF s.rs p) ∧ w.heap.size ≤ b ∧ Ext w w' := by
  obtain ⟨hps, hhs, hrs, ⟨q1, rfl⟩, ⟨q4, rfl⟩, ⟨q5, rfl⟩, hok⟩ := h
  obtain ⟨b0, n0, rfl⟩ := hps.form
  obtain ⟨b2, n2, rfl⟩ := hhs.form
  obtain ⟨b3, n3, rfl⟩ := hrs.form
  have HRS := Lib.hid hrs; have HOK := Lib.hid hok
  have hnr := hok.nr
  have hmm := @run_makeMap Try.prog
  obtain ⟨D, hD⟩ : ∃ D, D = w.heap.size := ⟨_, rfl⟩
  clear hps hhs hrs hok
  go_enter Try.func29, Try.ntmps29
  go_upto_region 1 with (fail)
  obtain ⟨row, hrow⟩ : ∃ row : Array Value, row = #[.slice b0 s.ps.length n0, .int .i64 q1, .slice b2 s.hs.length n2, .slice b3 s.rs.length n3, .int .i64 q4, .int .i64 q5] := ⟨_, rfl⟩
  have hrow3 : row[3]? = some (.slice b3 s.rs.length n3) := by rw [hrow]; rfl
  rw [← hrow]
  have hx1 : Ext w (w.alloc (.cells row 28)) := Ext.alloc (Ext.refl _) _
  have hb1 := alloc_at w (.cells row 28)
  have hs1 : (w.alloc (.cells row 28)).heap.size = D + 1 := by rw [hD]; simp
  rw [← hD] at hb1 ⊢
  generalize w.alloc (.cells row 28) = W1 at *
  have HB1 := Lib.hid hb1; have HX1 := Lib.hid hx1; have HS1 := Lib.hid hs1; have HR3 := Lib.hid hrow3; have HD := Lib.hid hD
  have HM1 := Lib.hid (BM.made W1)
  clear hrow hrow3 hb1 hx1 hs1 hD
  go_upto_region 2 with (refine wpList_insB rfl (.tmp 11) (.tmp 12) (.const (.bool true)) rfl W1.heap.size (fun _ => false) (by rfl) HM1.out p (by rfl) hp true (by rfl) ?_; intro W2 hbm hgr)
  have hxm : Ext W1 (W1.alloc (.map #[] 0)) := Ext.alloc (Ext.refl _) _
  have HB2 : Hid (W2.heap[D]? = some (.cells row 28)) := Lib.hid (grown_row HM1.out hgr ((hxm.block _ (Rg.lt_of_heap HB1.out)).trans HB1.out))
  have HX2 : Hid (Ext w W2) := Lib.hid (grown_low (HX1.out.trans hxm) (by have := HD.out; have := HS1.out; omega) hgr)
  have HM2 : Hid (BM W2 (D + 1) (cirK s.rs p 0)) := Lib.hid (HS1.out ▸ hbm.congr fun x => by
    unfold setF cirK
    by_cases e : x = p
    · rw [if_pos e]; simp [e]
    · rw [if_neg e]; simp [e])
  rw [HS1.out]
  clear hxm
  clear hbm hgr HM1 HB1 HX1 HS1
  go_wp2_with (fail)
  go_loopw [14] (fun k wr => ∃ j : Nat, k = .int .i64 j ∧ j ≤ 2 ∧ Hid (BM wr (D + 1) (cirK s.rs p j)) ∧ Hid (wr.heap[D]? = some (.cells row 28)) ∧ Hid (Ext w wr)) (fun k _ => 2 - (iof k).toNat)
  case atStart => exact ⟨0, rfl, by omega, HM2, HB2, HX2⟩
  case round =>
    obtain ⟨j, rfl, hj, HM, HB, HX⟩ := hrel
    clear HM2 HB2 HX2
    by_cases hj2 : j < 2
    · have HF : Hid (∀ x, cirK s.rs p (j + 1) x = (cirK s.rs p j x || nxtF s.rs (cirK s.rs p j) x)) := Lib.hid fun x => rfl
      generalize cirK s.rs p j = f at *
      have c3 := cell_of_row wr D 3 _ _ _ HB.out
      rw [HR3.out] at c3
      have cl := Rg.lt_of_heap HB.out
      have hx3 : Ext wr (wr.alloc (.map #[] 0)) := Ext.alloc (Ext.refl _) _
      have HN3 := Lib.hid (BM.made wr); have HM3 := Lib.hid (HM.out.ext hx3); have HB3 := Lib.hid ((hx3.block _ cl).trans HB.out); have HX3 := Lib.hid (HX.out.trans hx3)
      have c3' := (hx3.cells.1 _ 3 cl).trans c3
      obtain ⟨mN, hmN⟩ : ∃ mN, mN = wr.heap.size := ⟨_, rfl⟩
      have hne : D + 1 ≠ mN := by have := HM.out.lt; omega
      have hDN : D < mN := by omega
      rw [← hmN] at HN3
      go_upto_region 5 with (fail)
      rw [← hmN]
      clear hmN hx3 HM HB HX c3 cl
      generalize wr.alloc (.map #[] 0) = W3 at *
      go_wp2_with (fail)
      clear c3'
      simp only [show decide ((j : Int) < 2) = true from decide_eq_true (by omega)]
      go_loopw [20] (fun k wq => ∃ i : Nat, k = .int .i64 i ∧ i ≤ s.rs.length ∧ Hid (BM wq mN (nxtF (s.rs.take i) f)) ∧ Hid (BM wq (D + 1) f) ∧ Hid (wq.heap[D]? = some (.cells row 28)) ∧ Hid (Ext w wq)) (fun k _ => s.rs.length - (iof k).toNat)
      case atStart => exact ⟨0, rfl, by omega, Lib.hid (HN3.out.congr fun _ => rfl), HM3, HB3, HX3⟩
      case round =>
        obtain ⟨i, rfl, hi, KN, KM, KB, KX⟩ := hrel
        clear HN3 HM3 HB3 HX3
        by_cases hil : i < s.rs.length
        · obtain ⟨g, rfl, hgl, d0, d1⟩ := re_at HRS.out i hil
          have o := HOK.out.rs s.rs[i] (List.getElem_mem _)
          have HT : Hid (∀ x, nxtF (s.rs.take (i + 1)) f x = setF (setF (nxtF (s.rs.take i) f) s.rs[i].1 (nxtF (s.rs.take i) f s.rs[i].1 || f s.rs[i].2)) s.rs[i].2 (setF (nxtF (s.rs.take i) f) s.rs[i].1 (nxtF (s.rs.take i) f s.rs[i].1 || f s.rs[i].2) s.rs[i].2 || f s.rs[i].1) x) := Lib.hid fun x => by
            rw [List.take_succ_eq_append_getElem hil, nxtF_snoc]
          replace d0 := (KX.out.cells.1 _ _ hgl).trans d0
          replace d1 := (KX.out.cells.1 _ _ hgl).trans d1
          replace hgl := Nat.lt_of_lt_of_le hgl KX.out.size
          generalize s.rs[i] = r at *
          obtain ⟨ra, rb⟩ := r
          simp only at d0 d1 o HT
          obtain ⟨oa, ob⟩ := o
          generalize nxtF (s.rs.take i) f = nx at *
          go_upto_region 8 with (fail)
          have hx4 : Ext wr (wr.alloc (.cells #[.int .i64 ra, .int .i64 rb] 36)) := Ext.alloc (Ext.refl _) _
          have hb4 := alloc_at wr (.cells #[.int .i64 ra, .int .i64 rb] 36)
          obtain ⟨gb, hgb⟩ : ∃ gb, gb = wr.heap.size := ⟨_, rfl⟩
          have hgN : mN < gb := by rw [hgb]; exact KN.out.lt
          have hgM : D + 1 < gb := by rw [hgb]; exact KM.out.lt
          have LN := Lib.hid (KN.out.ext hx4); have LM := Lib.hid (KM.out.ext hx4); have LB := Lib.hid ((hx4.block _ (Rg.lt_of_heap KB.out)).trans KB.out); have LX := Lib.hid (KX.out.trans hx4)
          rw [← hgb] at hb4 ⊢
          have LG := Lib.hid hb4
          clear hx4 hb4 hgb d0 d1 hgl KN KM KB KX
          generalize wr.alloc (.cells #[.int .i64 ra, .int .i64 rb] 36) = W4 at *
          have e0 := cell_of_row W4 gb 0 _ _ _ LG.out
          have e1 := cell_of_row W4 gb 1 _ _ _ LG.out
          change W4.cell? _ = some (.int .i64 ra) at e0
          change W4.cell? _ = some (.int .i64 rb) at e1
          have l1 := LN.out.look oa W4 rfl
          have l2 := LM.out.look ob W4 rfl
          cases h1 : nx ra with
          | true =>
            rw [h1] at l1 HT
            simp only [Bool.true_or] at HT
            go_upto_region 9 with (refine wpList_putB rfl (.tmp 24) (.tmp 26) (.tmp 36) rfl mN nx (by rfl) LN.out ra (by rfl) oa true (by rfl) ?_; intro W5 hn5 hg5)
            clear l1 l2 e0 e1
            have HN5 := Lib.hid hn5; have HM5 := Lib.hid (LM.out.kept hg5 (by simp; omega)); have HB5 := Lib.hid (grown_row LN.out hg5 LB.out); have HX5 := Lib.hid (grown_low LX.out (by have := HD.out; omega) hg5); have HG5 := Lib.hid (grown_row LN.out hg5 LG.out)
            have e0 := cell_of_row W5 gb 0 _ _ _ HG5.out
            have e1 := cell_of_row W5 gb 1 _ _ _ HG5.out
            change W5.cell? _ = some (.int .i64 ra) at e0
            change W5.cell? _ = some (.int .i64 rb) at e1
            have l1 := HN5.out.look ob W5 rfl
            have l2 := HM5.out.look oa W5 rfl
            clear hn5 hg5 LN LM LB LX LG
            cases h2 : (setF nx ra true rb) with
            | true =>
              rw [h2] at l1 HT
              simp only [Bool.true_or] at HT
              clear h2
              go_upto_region 10 with (refine wpList_putB rfl (.tmp 37) (.tmp 39) (.tmp 49) rfl mN _ (by rfl) HN5.out rb (by rfl) ob true (by rfl) ?_; intro W6 hn6 hg6)
              have HN6 := Lib.hid hn6; have HM6 := Lib.hid (HM5.out.kept hg6 (by simp; omega)); have HB6 := Lib.hid (grown_row HN5.out hg6 HB5.out); have HX6 := Lib.hid (grown_low HX5.out (by have := HD.out; omega) hg6)
              clear hn6 hg6 HN5 HM5 HB5 HX5 HG5
              go_wp2_with (fail)
              exact ⟨⟨i + 1, by simp, by omega, Lib.hid (HN6.out.congr fun x => (HT.out x).symm), HM6, HB6, HX6⟩, by simp [iof]; omega⟩
            | false =>
              rw [h2] at l1 HT
              simp only [Bool.false_or] at HT
              clear h2
              go_upto_region 10 with (refine wpList_putB rfl (.tmp 37) (.tmp 39) (.tmp 49) rfl mN _ (by rfl) HN5.out rb (by rfl) ob (f ra) (by rfl) ?_; intro W6 hn6 hg6)
              have HN6 := Lib.hid hn6; have HM6 := Lib.hid (HM5.out.kept hg6 (by simp; omega)); have HB6 := Lib.hid (grown_row HN5.out hg6 HB5.out); have HX6 := Lib.hid (grown_low HX5.out (by have := HD.out; omega) hg6)
              clear hn6 hg6 HN5 HM5 HB5 HX5 HG5
              go_wp2_with (fail)
              exact ⟨⟨i + 1, by simp, by omega, Lib.hid (HN6.out.congr fun x => (HT.out x).symm), HM6, HB6, HX6⟩, by simp [iof]; omega⟩
          | false =>
            rw [h1] at l1 HT
            simp only [Bool.false_or] at HT
            go_upto_region 9 with (refine wpList_putB rfl (.tmp 24) (.tmp 26) (.tmp 36) rfl mN nx (by rfl) LN.out ra (by rfl) oa (f rb) (by rfl) ?_; intro W5 hn5 hg5)
            clear l1 l2 e0 e1
            have HN5 := Lib.hid hn5; have HM5 := Lib.hid (LM.out.kept hg5 (by simp; omega)); have HB5 := Lib.hid (grown_row LN.out hg5 LB.out); have HX5 := Lib.hid (grown_low LX.out (by have := HD.out; omega) hg5); have HG5 := Lib.hid (grown_row LN.out hg5 LG.out)
            have e0 := cell_of_row W5 gb 0 _ _ _ HG5.out
            have e1 := cell_of_row W5 gb 1 _ _ _ HG5.out
            change W5.cell? _ = some (.int .i64 ra) at e0
            change W5.cell? _ = some (.int .i64 rb) at e1
            have l1 := HN5.out.look ob W5 rfl
            have l2 := HM5.out.look oa W5 rfl
            clear hn5 hg5 LN LM LB LX LG
            cases h2 : (setF nx ra (f rb) rb) with
            | true =>
              rw [h2] at l1 HT
              simp only [Bool.true_or] at HT
              clear h2
              go_upto_region 10 with (refine wpList_putB rfl (.tmp 37) (.tmp 39) (.tmp 49) rfl mN _ (by rfl) HN5.out rb (by rfl) ob true (by rfl) ?_; intro W6 hn6 hg6)
              have HN6 := Lib.hid hn6; have HM6 := Lib.hid (HM5.out.kept hg6 (by simp; omega)); have HB6 := Lib.hid (grown_row HN5.out hg6 HB5.out); have HX6 := Lib.hid (grown_low HX5.out (by have := HD.out; omega) hg6)
              clear hn6 hg6 HN5 HM5 HB5 HX5 HG5
              go_wp2_with (fail)
              exact ⟨⟨i + 1, by simp, by omega, Lib.hid (HN6.out.congr fun x => (HT.out x).symm), HM6, HB6, HX6⟩, by simp [iof]; omega⟩
            | false =>
              rw [h2] at l1 HT
              simp only [Bool.false_or] at HT
              clear h2
              go_upto_region 10 with (refine wpList_putB rfl (.tmp 37) (.tmp 39) (.tmp 49) rfl mN _ (by rfl) HN5.out rb (by rfl) ob (f ra) (by rfl) ?_; intro W6 hn6 hg6)
              have HN6 := Lib.hid hn6; have HM6 := Lib.hid (HM5.out.kept hg6 (by simp; omega)); have HB6 := Lib.hid (grown_row HN5.out hg6 HB5.out); have HX6 := Lib.hid (grown_low HX5.out (by have := HD.out; omega) hg6)
              clear hn6 hg6 HN5 HM5 HB5 HX5 HG5
              go_wp2_with (fail)
              exact ⟨⟨i + 1, by simp, by omega, Lib.hid (HN6.out.congr fun x => (HT.out x).symm), HM6, HB6, HX6⟩, by simp [iof]; omega⟩
        · obtain rfl : i = s.rs.length := by omega
          rw [List.take_length] at KN
          obtain ⟨L, hL, hLb, hLf⟩ := KN.out
          have HLB := Lib.hid hLb; have HLF := Lib.hid hLf
          have LM := Lib.hid KM.out; have LX := Lib.hid KX.out
          have KB2 := Lib.hid KB.out
          clear KN KM KX KB hLb hLf
          go_upto_region 12 with (refine wpList_range rfl (.tmp 51) 66 rfl 3 4 Try.underlying66 mN L (by rfl) hL ?_; intro W4 hrg hx4 hs4)
          obtain ⟨rr, hrr⟩ : ∃ rr, rr = wr.heap.size := ⟨_, rfl⟩
          rw [← hrr] at hrg ⊢
          have hMr : D + 1 < rr := by rw [hrr]; exact LM.out.lt
          have hNr : mN < rr := by rw [hrr]; exact hL.lt
          have LB := Lib.hid ((hx4.block _ (Rg.lt_of_heap KB2.out)).trans KB2.out)
          have HM4 : Hid (BM W4 (D + 1) (midF f (nxtF s.rs f) L)) := Lib.hid ((LM.out.ext hx4).congr fun x => (midF_start HLF.out x).symm)
          have HX4 := Lib.hid (LX.out.trans hx4)
          have HND := Lib.hid hL.nodup; have HGD := Lib.hid hL.gd
          have HRG := Lib.hid hrg
          generalize nxtF s.rs f = nx at *
          clear hL hx4 hs4 hrr hrg LM LX KB2
          go_frame
          go_loopw [9] (fun _ wq => ∃ left, RG encI OkI wq mN rr L left ∧ Hid ((left.map (fun x => x.1)).Nodup) ∧ Hid (BM wq (D + 1) (midF f nx left)) ∧ Hid (wq.heap[D]? = some (.cells row 28)) ∧ Hid (Ext w wq)) (fun _ wq => wq.rangeLeft mN rr)
          case atStart => exact ⟨L, HRG.out, HND, HM4, LB, HX4⟩
          case round =>
            obtain ⟨left, hrgr, KN, KM, KB, KX⟩ := hrel
            clear HRG HM4 LB HX4
            go_upto_region 13 with (refine wpList_next rfl (.tmp 52) rfl mN rr L left (by rfl) hrgr ?_ ?_)
            · intro hl
              subst hl
              go_wp2_with (fail)
              exact ⟨⟨j + 1, by simp, by omega, Lib.hid (KM.out.congr fun x => by rw [midF_end, HF.out]), KB, KX⟩, by simp [iof]; omega⟩
            · intro pre x v post W5 hl hrg5 hg5 hs5 hen
              subst hl
              have hmem := hrgr.2.1 (x, v) (List.mem_append_right _ List.mem_cons_self)
              have ox := HGD.out (x, v) hmem
              obtain ⟨c, hc⟩ := HLB.out (x, v) hmem
              have hcn : c = nx x := by
                have h1 := HLF.out x
                rw [mem_lookup HND.out hmem] at h1
                simp only [Option.getD_some] at h1
                have h2 : v = .bool c := hc
                rw [h2] at h1
                injection h1
              simp only at hc ox
              subst hc hcn
              have HLE := Lib.hid hrgr.left_eq; have HLE5 := Lib.hid hrg5.left_eq
              have hnd := KN.out
              have KN5 : Hid (((pre ++ post).map (fun x => x.1)).Nodup) := Lib.hid (by
                rw [List.map_append] at hnd ⊢
                rw [List.map_cons] at hnd
                exact hnd.sublist (List.Sublist.append (List.Sublist.refl _) (List.sublist_cons_self _ _)))
              have HST := Lib.hid (midF_step (f := f) (nx := nx) hnd)
              have KM5 := KM.out.kept hg5 (by simp; omega)
              have KB5 := Lib.hid ((hg5.block _ (Rg.lt_of_heap KB.out) (by simp; omega)).trans KB.out)
              have KX5 := Lib.hid (grown_low KX.out (by have := HD.out; omega) hg5)
              have l1 := KM5.look ox W5 rfl
              have HK5 := Lib.hid KM5; have HR5 := Lib.hid hrg5
              clear hmem hnd KM5 hrg5 hg5 hs5 hrgr KM KB KX KN
              generalize midF f nx (pre ++ (x, .bool (nx x)) :: post) = cur at *
              cases h1 : cur x with
              | true =>
                rw [h1] at l1 HST
                simp only [Bool.true_or] at HST
                go_upto_region 15 with (refine wpList_putB rfl (.tmp 58) (.tmp 59) (.tmp 65) rfl (D + 1) cur (by rfl) HK5.out x (by rfl) ox true (by rfl) ?_; intro W6 hm6 hg6)
                have K6 := Lib.hid hm6; have B6 := Lib.hid (grown_row HK5.out hg6 KB5.out); have X6 := Lib.hid (grown_low KX5.out (by have := HD.out; omega) hg6); have R6 := Lib.hid (HR5.out.kept hg6 (by simp; omega) (by simp; omega))
                clear hm6 hg6 HK5 KB5 KX5 HR5
                go_wp2_with (fail)
                exact ⟨⟨_, _, _, _, _, _, _, _, _, _, _, _, _, _, _, ⟨pre ++ post, R6.out, KN5, Lib.hid (K6.out.congr fun y => HST.out y), B6, X6⟩, rfl⟩, by rw [R6.out.left_eq, HLE.out]; simp⟩
              | false =>
                rw [h1] at l1 HST
                simp only [Bool.false_or] at HST
                go_upto_region 15 with (refine wpList_putB rfl (.tmp 58) (.tmp 59) (.tmp 65) rfl (D + 1) cur (by rfl) HK5.out x (by rfl) ox (nx x) (by rfl) ?_; intro W6 hm6 hg6)
                have K6 := Lib.hid hm6; have B6 := Lib.hid (grown_row HK5.out hg6 KB5.out); have X6 := Lib.hid (grown_low KX5.out (by have := HD.out; omega) hg6); have R6 := Lib.hid (HR5.out.kept hg6 (by simp; omega) (by simp; omega))
                clear hm6 hg6 HK5 KB5 KX5 HR5
                go_wp2_with (fail)
                exact ⟨⟨_, _, _, _, _, _, _, _, _, _, _, _, _, _, _, ⟨pre ++ post, R6.out, KN5, Lib.hid (K6.out.congr fun y => HST.out y), B6, X6⟩, rfl⟩, by rw [R6.out.left_eq, HLE.out]; simp⟩
    · obtain rfl : j = 2 := by omega
      go_wp2_with (fail)
      go_ret
      exact ⟨_, rfl, HM.out, by have := HD.out; omega, HX.out⟩
end Go.Proofs.Ytlekdhhgjhakgaa

namespace Go.Proofs.Ytlekdhhgjhakgaa
set_option linter.unusedVariables false
set_option linter.unusedSimpArgs false
open Go.RowKit
theorem parts_snoc (hs : List Ho) (h : Ho) (b : Int) (f : Int → Bool) : partsF (hs ++ [h]) b f = partsF hs b f + pctF b f h := by
  rw [partsF_sum, partsF_sum, List.map_append, sumZ_app]
  show _ + (pctF b f h + 0) = _
  omega
theorem pctF_le (b : Int) (f : Int → Bool) (h : Ho) : pctF b f h ≤ 100 := by
  unfold pctF countH
  split
  · rename_i h1
    simp only [Bool.and_eq_true, decide_eq_true_iff] at h1
    omega
  · omega
theorem parts_bd (b : Int) (f : Int → Bool) : ∀ (hs : List Ho), 0 ≤ partsF hs b f ∧ partsF hs b f ≤ 100 * hs.length
  | [] => ⟨Int.le_refl _, Int.le_refl _⟩
  | h :: hs => by
    obtain ⟨h1, h2⟩ := parts_bd b f hs
    have h3 := pctF_nn b f h
    have h4 := pctF_le b f h
    rw [partsF_sum] at *
    show 0 ≤ pctF b f h + sumZ (hs.map (pctF b f)) ∧ pctF b f h + sumZ (hs.map (pctF b f)) ≤ _
    simp only [List.length_cons]
    omega
set_option maxRecDepth 100000 in
set_option maxHeartbeats 8000000 in
theorem parts_any (c0 c1 c2 c3 c4 c5 : Value) (s : Su) (mb : Nat) (f : Int → Bool) (b : Int) (w : World) (h : SuV w c0 c1 c2 c3 c4 c5 s) (hm : BM w mb f) :
    Calls Try.prog 28 #[.agg #[c0, c1, c2, c3, c4, c5], .map (some mb), .int .i64 b] w fun e w' => e = .returned (.int .i64 (partsF s.hs b f)) ∧ Ext w w' := by
  obtain ⟨hps, hhs, hrs, ⟨q1, rfl⟩, ⟨q4, rfl⟩, ⟨q5, rfl⟩, hok⟩ := h
  obtain ⟨b0, n0, rfl⟩ := hps.form
  obtain ⟨b2, n2, rfl⟩ := hhs.form
  obtain ⟨b3, n3, rfl⟩ := hrs.form
  have HHS := Lib.hid hhs; have HOK := Lib.hid hok; have HM := Lib.hid hm
  have hnh := hok.nh
  clear hps hhs hrs hok hm
  go_enter Try.func28, Try.ntmps28
  go_upto_region 1 with (fail)
  have hx1 : Ext w (w.alloc (.cells #[.slice b0 s.ps.length n0, .int .i64 q1, .slice b2 s.hs.length n2, .slice b3 s.rs.length n3, .int .i64 q4, .int .i64 q5] 28)) := Ext.alloc (Ext.refl _) _
  have hb1 := alloc_at w (.cells #[.slice b0 s.ps.length n0, .int .i64 q1, .slice b2 s.hs.length n2, .slice b3 s.rs.length n3, .int .i64 q4, .int .i64 q5] 28)
  obtain ⟨D, hD⟩ : ∃ D, D = w.heap.size := ⟨_, rfl⟩
  rw [← hD] at hb1 ⊢
  clear hD
  generalize w.alloc (.cells #[.slice b0 s.ps.length n0, .int .i64 q1, .slice b2 s.hs.length n2, .slice b3 s.rs.length n3, .int .i64 q4, .int .i64 q5] 28) = W1 at *
  have e2 := cell_of_row W1 D 2 _ _ _ hb1
  change W1.cell? _ = some (.slice b2 s.hs.length n2) at e2
  have HX1 := Lib.hid hx1
  clear hx1 hb1
  go_wp2_with (fail)
  clear e2
  go_loopw [7, 13] (fun sv k wr => ∃ i : Nat, k = .int .i64 i ∧ i ≤ s.hs.length ∧ sv = .int .i64 (partsF (s.hs.take i) b f) ∧ Hid (Ext w wr)) (fun _ k _ => s.hs.length - (iof k).toNat)
  case atStart => exact ⟨0, rfl, by omega, rfl, HX1⟩
  case round =>
    obtain ⟨i, rfl, hi, rfl, HX⟩ := hrel
    clear HX1
    by_cases hil : i < s.hs.length
    · obtain ⟨g, rfl, hgl, d0, d1, d2⟩ := ho_at HHS.out i hil
      have o := HOK.out.hs s.hs[i] (List.getElem_mem _)
      have HT : Hid (partsF (s.hs.take (i + 1)) b f = partsF (s.hs.take i) b f + pctF b f s.hs[i]) := Lib.hid (by rw [List.take_succ_eq_append_getElem hil, parts_snoc])
      have hbd := parts_bd b f (s.hs.take i)
      rw [List.length_take] at hbd
      obtain ⟨bd1, bd2⟩ := hbd
      have bd3 : partsF (s.hs.take i) b f ≤ 100000 := by omega
      replace d0 := (HX.out.cells.1 _ _ hgl).trans d0
      replace d1 := (HX.out.cells.1 _ _ hgl).trans d1
      replace d2 := (HX.out.cells.1 _ _ hgl).trans d2
      replace hgl := Nat.lt_of_lt_of_le hgl HX.out.size
      generalize s.hs[i] = r at *
      obtain ⟨hp, hb, hc⟩ := r
      simp only at d0 d1 d2 o
      obtain ⟨op, ob, oc⟩ := o
      generalize partsF (s.hs.take i) b f = sm0 at *
      have hl := fun wz (hz : Ext w wz) => (HM.out.ext hz).look op wz rfl
      have HPF : Hid (pctF b f ⟨hp, hb, hc⟩ = if (hb == b && decide (0 < hc) && decide (hc ≤ 100) && f hp) = true then hc else 0) := Lib.hid rfl
      go_upto_region 5 with (fail)
      have hx4 : Ext wr (wr.alloc (.cells #[.int .i64 hp, .int .i64 hb, .int .i64 hc] 33)) := Ext.alloc (Ext.refl _) _
      have hb4 := alloc_at wr (.cells #[.int .i64 hp, .int .i64 hb, .int .i64 hc] 33)
      obtain ⟨gb, hgb⟩ : ∃ gb, gb = wr.heap.size := ⟨_, rfl⟩
      rw [← hgb] at hb4 ⊢
      have HX4 := Lib.hid (HX.out.trans hx4)
      clear hgb hx4 d0 d1 d2 hgl HX
      generalize wr.alloc (.cells #[.int .i64 hp, .int .i64 hb, .int .i64 hc] 33) = W4 at *
      have e0 := cell_of_row W4 gb 0 _ _ _ hb4
      have e1 := cell_of_row W4 gb 1 _ _ _ hb4
      have e2 := cell_of_row W4 gb 2 _ _ _ hb4
      change W4.cell? _ = some (.int .i64 hp) at e0
      change W4.cell? _ = some (.int .i64 hb) at e1
      change W4.cell? _ = some (.int .i64 hc) at e2
      have l1 := hl W4 HX4.out
      clear hb4 hl
      by_cases h1 : hb = b
      · by_cases h2 : 0 < hc
        · by_cases h3 : hc ≤ 100
          · cases h4 : f hp with
            | true =>
              rw [h4] at l1
              have HN : Hid (partsF (s.hs.take (i + 1)) b f = sm0 + hc) := Lib.hid (by rw [HT.out, HPF.out, if_pos (by simp [h1, h2, h3, h4])])
              clear HT HPF
              go_wp2_with (fail)
              exact ⟨⟨i + 1, by simp, by omega, by rw [HN.out], HX4⟩, by simp [iof]; omega⟩
            | false =>
              rw [h4] at l1
              have HN : Hid (partsF (s.hs.take (i + 1)) b f = sm0) := Lib.hid (by rw [HT.out, HPF.out, if_neg (by simp [h4])]; omega)
              clear HT HPF
              go_wp2_with (fail)
              exact ⟨⟨i + 1, by simp, by omega, by rw [HN.out], HX4⟩, by simp [iof]; omega⟩
          · skip
            have HN : Hid (partsF (s.hs.take (i + 1)) b f = sm0) := Lib.hid (by rw [HT.out, HPF.out, if_neg (by simp [h3])]; omega)
            clear HT HPF
            go_wp2_with (fail)
            exact ⟨⟨i + 1, by simp, by omega, by rw [HN.out], HX4⟩, by simp [iof]; omega⟩
        · skip
          have HN : Hid (partsF (s.hs.take (i + 1)) b f = sm0) := Lib.hid (by rw [HT.out, HPF.out, if_neg (by simp [h2])]; omega)
          clear HT HPF
          go_wp2_with (fail)
          exact ⟨⟨i + 1, by simp, by omega, by rw [HN.out], HX4⟩, by simp [iof]; omega⟩
      · have h1b : (hb == b) = false := by simpa using h1
        have HN : Hid (partsF (s.hs.take (i + 1)) b f = sm0) := Lib.hid (by rw [HT.out, HPF.out, if_neg (by simp [h1])]; omega)
        clear HT HPF
        go_wp2_with (fail)
        exact ⟨⟨i + 1, by simp, by omega, by rw [HN.out], HX4⟩, by simp [iof]; omega⟩
    · obtain rfl : i = s.hs.length := by omega
      have HL : Hid (partsF (s.hs.take s.hs.length) b f = partsF s.hs b f) := Lib.hid (by rw [List.take_length])
      generalize partsF (s.hs.take s.hs.length) b f = r at *
      go_wp2_with (fail)
      go_ret
      exact ⟨by rw [← HL.out]; rfl, HX.out⟩
set_option maxRecDepth 100000 in
set_option maxHeartbeats 8000000 in
theorem Parts_any (c0 c1 c2 c3 c4 c5 : Value) (s : Su) (p b : Int) (w : World) (h : SuV w c0 c1 c2 c3 c4 c5 s) (hp : OkI p) :
    Calls Try.prog 13 #[.agg #[c0, c1, c2, c3, c4, c5], .int .i64 p, .int .i64 b] w fun e w' => e = .returned (.int .i64 (partsF s.hs b (cirF s.rs p))) ∧ Ext w w' := by
  have hS := h
  obtain ⟨hps, hhs, hrs, ⟨q1, rfl⟩, ⟨q4, rfl⟩, ⟨q5, rfl⟩, hok⟩ := h
  obtain ⟨b0, n0, rfl⟩ := hps.form
  obtain ⟨b2, n2, rfl⟩ := hhs.form
  obtain ⟨b3, n3, rfl⟩ := hrs.form
  clear hps hhs hrs hok
  go_enter Try.func13, Try.ntmps13
  go_upto_region 1 with (fail)
  obtain ⟨v0, hv0⟩ : ∃ v0, v0 = Value.slice b0 s.ps.length n0 := ⟨_, rfl⟩
  obtain ⟨v2, hv2⟩ : ∃ v2, v2 = Value.slice b2 s.hs.length n2 := ⟨_, rfl⟩
  obtain ⟨v3, hv3⟩ : ∃ v3, v3 = Value.slice b3 s.rs.length n3 := ⟨_, rfl⟩
  rw [← hv0, ← hv2, ← hv3] at hS ⊢
  have hx1 : Ext w (w.alloc (.cells #[v0, .int .i64 q1, v2, v3, .int .i64 q4, .int .i64 q5] 28)) := Ext.alloc (Ext.refl _) _
  have hb1 := alloc_at w (.cells #[v0, .int .i64 q1, v2, v3, .int .i64 q4, .int .i64 q5] 28)
  obtain ⟨D, hD⟩ : ∃ D, D = w.heap.size := ⟨_, rfl⟩
  rw [← hD] at hb1 ⊢
  clear hD
  generalize w.alloc (.cells #[v0, .int .i64 q1, v2, v3, .int .i64 q4, .int .i64 q5] 28) = W1 at *
  have HS := Lib.hid (hS.ext hx1)
  have HB := Lib.hid hb1; have HX1 := Lib.hid hx1
  have HC : Hid (∀ wz, Ext W1 wz → wz.cell? ⟨D, 0, none⟩ = some v0 ∧ wz.cell? ⟨D, 1, none⟩ = some (.int .i64 q1) ∧ wz.cell? ⟨D, 2, none⟩ = some v2 ∧ wz.cell? ⟨D, 3, none⟩ = some v3 ∧ wz.cell? ⟨D, 4, none⟩ = some (.int .i64 q4) ∧ wz.cell? ⟨D, 5, none⟩ = some (.int .i64 q5)) := Lib.hid fun wz hz => by
    have h1 := (hz.block _ (Rg.lt_of_heap HB.out)).trans HB.out
    exact ⟨cell_of_row wz D 0 _ _ _ h1, cell_of_row wz D 1 _ _ _ h1, cell_of_row wz D 2 _ _ _ h1, cell_of_row wz D 3 _ _ _ h1, cell_of_row wz D 4 _ _ _ h1, cell_of_row wz D 5 _ _ _ h1⟩
  obtain ⟨e0, e1, e2, e3, e4, e5⟩ := HC.out W1 (Ext.refl _)
  have HCI := Lib.hid (fun wz (hz : Ext W1 wz) => circle_any _ _ _ _ _ _ s p wz (HS.out.ext hz) hp)
  have HPA := Lib.hid (fun wz mb (hz : Ext W1 wz) (hm : BM wz mb (cirF s.rs p)) => parts_any _ _ _ _ _ _ s mb (cirF s.rs p) b wz (HS.out.ext hz) hm)
  clear hb1 hx1 hS hv0 hv2 hv3
  go_region_held3 (fun w' => w'.cell? ⟨D, 0, none⟩ = some v0 ∧ w'.cell? ⟨D, 1, none⟩ = some (.int .i64 q1) ∧ w'.cell? ⟨D, 2, none⟩ = some v2 ∧ w'.cell? ⟨D, 3, none⟩ = some v3 ∧ w'.cell? ⟨D, 4, none⟩ = some (.int .i64 q4) ∧ w'.cell? ⟨D, 5, none⟩ = some (.int .i64 q5)) (first | exact kb' | exact ka' | exact ⟨e0, e1, e2, e3, e4, e5⟩ | go_keep)
    (first
      | (go_at_call 29; refine (HCI.out _ (by with_reducible repeat (first | exact Ext.refl _ | assumption | apply Ext.drewN | apply Ext.drew | apply Ext.alloc | (refine Ext.setCell ?_ (by simp <;> omega) _) | (refine Ext.trans ?_ (by assumption))))).mono ?_; rintro e wa ⟨mb, rfl, hma, -, hxa⟩; have hxA : Ext W1 wa := (by with_reducible repeat (first | exact Ext.refl _ | assumption | apply Ext.drewN | apply Ext.drew | apply Ext.alloc | (refine Ext.setCell ?_ (by simp <;> omega) _) | (refine Ext.trans ?_ (by assumption)))); have ka' := HC.out wa hxA)
      | (go_at_call 28; refine (HPA.out _ mb (by with_reducible repeat (first | exact Ext.refl _ | assumption | apply Ext.drewN | apply Ext.drew | apply Ext.alloc | (refine Ext.setCell ?_ (by simp <;> omega) _) | (refine Ext.trans ?_ (by assumption)))) (hma.ext (by with_reducible repeat (first | exact Ext.refl _ | assumption | apply Ext.drewN | apply Ext.drew | apply Ext.alloc | (refine Ext.setCell ?_ (by simp <;> omega) _) | (refine Ext.trans ?_ (by assumption)))))).mono ?_; rintro e wb ⟨rfl, hxb⟩; have hxB : Ext W1 wb := (by with_reducible repeat (first | exact Ext.refl _ | assumption | apply Ext.drewN | apply Ext.drew | apply Ext.alloc | (refine Ext.setCell ?_ (by simp <;> omega) _) | (refine Ext.trans ?_ (by assumption)))); have kb' := HC.out wb hxB))
  have HXB := Lib.hid hxB
  clear hxa hxb hxA hxB ka' kb' e0 e1 e2 e3 e4 e5 HCI HPA hma
  go_wp2_with (fail)
  go_ret
  exact ⟨rfl, HX1.out.trans HXB.out⟩
set_option maxRecDepth 100000 in
set_option maxHeartbeats 8000000 in
theorem Conflict_any (c0 c1 c2 c3 c4 c5 : Value) (s : Su) (p b : Int) (w : World) (h : SuV w c0 c1 c2 c3 c4 c5 s) (hp : OkI p) (hb : OkI b) :
    Calls Try.prog 15 #[.agg #[c0, c1, c2, c3, c4, c5], .int .i64 p, .int .i64 b] w fun e w' => e = .returned (.bool (confF s p b)) ∧ Ext w w' := by
  have HCF : Hid (confF s p b = (cirF s.rs p b || decide (5 ≤ partsF s.hs b (cirF s.rs p)))) := Lib.hid rfl
  have hS := h
  obtain ⟨hps, hhs, hrs, ⟨q1, rfl⟩, ⟨q4, rfl⟩, ⟨q5, rfl⟩, hok⟩ := h
  obtain ⟨b0, n0, rfl⟩ := hps.form
  obtain ⟨b2, n2, rfl⟩ := hhs.form
  obtain ⟨b3, n3, rfl⟩ := hrs.form
  clear hps hhs hrs hok
  go_enter Try.func15, Try.ntmps15
  go_upto_region 1 with (fail)
  obtain ⟨v0, hv0⟩ : ∃ v0, v0 = Value.slice b0 s.ps.length n0 := ⟨_, rfl⟩
  obtain ⟨v2, hv2⟩ : ∃ v2, v2 = Value.slice b2 s.hs.length n2 := ⟨_, rfl⟩
  obtain ⟨v3, hv3⟩ : ∃ v3, v3 = Value.slice b3 s.rs.length n3 := ⟨_, rfl⟩
  rw [← hv0, ← hv2, ← hv3] at hS ⊢
  have hx1 : Ext w (w.alloc (.cells #[v0, .int .i64 q1, v2, v3, .int .i64 q4, .int .i64 q5] 28)) := Ext.alloc (Ext.refl _) _
  have hb1 := alloc_at w (.cells #[v0, .int .i64 q1, v2, v3, .int .i64 q4, .int .i64 q5] 28)
  obtain ⟨D, hD⟩ : ∃ D, D = w.heap.size := ⟨_, rfl⟩
  rw [← hD] at hb1 ⊢
  clear hD
  generalize w.alloc (.cells #[v0, .int .i64 q1, v2, v3, .int .i64 q4, .int .i64 q5] 28) = W1 at *
  have HS := Lib.hid (hS.ext hx1)
  have HB := Lib.hid hb1; have HX1 := Lib.hid hx1
  have HC : Hid (∀ wz, Ext W1 wz → wz.cell? ⟨D, 0, none⟩ = some v0 ∧ wz.cell? ⟨D, 1, none⟩ = some (.int .i64 q1) ∧ wz.cell? ⟨D, 2, none⟩ = some v2 ∧ wz.cell? ⟨D, 3, none⟩ = some v3 ∧ wz.cell? ⟨D, 4, none⟩ = some (.int .i64 q4) ∧ wz.cell? ⟨D, 5, none⟩ = some (.int .i64 q5)) := Lib.hid fun wz hz => by
    have h1 := (hz.block _ (Rg.lt_of_heap HB.out)).trans HB.out
    exact ⟨cell_of_row wz D 0 _ _ _ h1, cell_of_row wz D 1 _ _ _ h1, cell_of_row wz D 2 _ _ _ h1, cell_of_row wz D 3 _ _ _ h1, cell_of_row wz D 4 _ _ _ h1, cell_of_row wz D 5 _ _ _ h1⟩
  obtain ⟨e0, e1, e2, e3, e4, e5⟩ := HC.out W1 (Ext.refl _)
  have HCI := Lib.hid (fun wz (hz : Ext W1 wz) => circle_any _ _ _ _ _ _ s p wz (HS.out.ext hz) hp)
  have HPA := Lib.hid (fun wz mb (hz : Ext W1 wz) (hm : BM wz mb (cirF s.rs p)) => parts_any _ _ _ _ _ _ s mb (cirF s.rs p) b wz (HS.out.ext hz) hm)
  clear hb1 hx1 hS hv0 hv2 hv3
  go_upto_region 2 with (go_at_call 29; (with_reducible refine (HCI.out _ (Ext.refl _)).mono ?_); rintro e wa ⟨mb, rfl, hma, -, hxa⟩)
  clear e0 e1 e2 e3 e4 e5
  obtain ⟨e0, e1, e2, e3, e4, e5⟩ := HC.out wa hxa
  have l1 := hma.look hb wa rfl
  have HP := Lib.hid (HPA.out wa mb hxa hma)
  have HXA := Lib.hid hxa
  clear HCI HPA HC hma hxa
  generalize partsF s.hs b (cirF s.rs p) = pt at *
  cases h1 : cirF s.rs p b with
  | true =>
    rw [h1] at l1 HCF
    go_wp2_with (fail)
    go_ret
    exact ⟨by rw [HCF.out]; rfl, HX1.out.trans HXA.out⟩
  | false =>
    rw [h1] at l1 HCF
    go_wp2_with (go_at_call 28; (with_reducible refine HP.out.mono ?_); rintro e wb ⟨rfl, hxb⟩)
    go_ret
    exact ⟨by rw [HCF.out]; rfl, HX1.out.trans (HXA.out.trans hxb)⟩
end Go.Proofs.Ytlekdhhgjhakgaa

namespace Go.Proofs.Ytlekdhhgjhakgaa
set_option linter.unusedVariables false
set_option linter.unusedSimpArgs false
open Go.RowKit
theorem append_g {α : Type} {cs : α → List Value} {sz : Nat} (T E bytes : Nat) {z : Value} (hT : Try.prog.underlying T = some (.slice E))
    (hinfo : (Try.prog.info? E).map (fun i => (i.zero, i.size, i.bytes)) = some (some z, sz, bytes)) (hz : z.cells.size = sz) (h0 : 0 < sz) (hby : bytes ≤ 100000)
    {ops : Array Oper} {rest : List Oper} {o : Oper} {a : Act} {Q : Exit → Act → World → Prop} {w : World} (hgd : o.guard = none) (s x : Operand)
    (ho : o.op = .call { callee := .builtin .append, args := #[s, x], argTypes := #[T, T] }) (B : Nat) (v : Value) (vs : List α) (hs : a.eval s = v) (hF : w.ownsRow B E sz v vs.length (vs.flatMap cs))
    (p : Nat) (u : α) (hl : (cs u).length = sz ∧ ∀ c ∈ cs u, c.oneCell' = true) (hx : a.eval x = .slice (some ⟨p, 0, none⟩) 1 1) (hp : w.heap[p]? = some (.cells (cs u).toArray E)) (hn : vs.length < 1000000) (hB : B ≤ w.heap.size)
    (h : ∀ g cap w', w'.ownsRow B E sz (.slice (some ⟨g, 0, none⟩) (vs.length + 1) cap) (vs ++ [u]).length ((vs ++ [u]).flatMap cs) → w.grownBy w' v.ownBlock → (v.ownBlock = some g ∨ g = w.heap.size) → wpList Try.prog ops Q rest (a.put o.dst (.slice (some ⟨g, 0, none⟩) (vs.length + 1) cap)) w') : wpList Try.prog ops Q (o :: rest) a w := by
  obtain ⟨i0, hi, hz0, hz1, hz2⟩ := info_parts hinfo
  refine wpList_append_lies w hgd s x T ho B E i0 _ sz bytes hT hi hz0 hz1 hz2 hz h0 v vs.length _ hs hF ⟨p, 0, none⟩ 1 1 (cs u) hx (by rw [hl.1, Nat.one_mul]) ?_ hl.2 (by decide) (by unfold maxLen; omega) ?_ hB w.heap.size rfl ?_
  · intro j c hc
    rw [addr_add, cell_of_row w p _ _ _ _ hp]
    simpa using hc
  · have : (vs.length + 1) * bytes ≤ 1000000 * 100000 := Nat.mul_le_mul (by omega) hby
    omega
  · intro g cap w' hw hg hat hlt
    refine h g cap w' ?_ hg hat
    rw [List.flatMap_append, List.length_append]
    simpa using hw
theorem row_block {B E sz n : Nat} {w : World} {v : Value} {xs : List Value} (h : w.ownsRow B E sz v n xs) {g : Nat} (hg : v.ownBlock = some g) : ∃ cs, w.heap[g]? = some (.cells cs E) := by
  rcases h.2 with ⟨rfl, -⟩ | ⟨g', cap, cur, rfl, hb, hc, -⟩
  · cases hg
  · cases hg
    exact ⟨_, hc⟩
theorem row_keepK {B E sz n : Nat} {w w' : World} {v : Value} {xs : List Value} (h : w.ownsRow B E sz v n xs) (hb : ∀ g, v.ownBlock = some g → w'.heap[g]? = w.heap[g]?) : w'.ownsRow B E sz v n xs := by
  refine ⟨h.1, ?_⟩
  rcases h.2 with hn | ⟨g, cap, cur, hv, hB, hg, rest⟩
  · exact .inl hn
  · exact .inr ⟨g, cap, cur, hv, hB, (hb g (by rw [hv]; rfl)).trans hg, rest⟩
def celI (i : Int) : List Value := [.int .i64 i]
theorem celI_len : ∀ x : Int, (celI x).length = 1 ∧ ∀ c ∈ celI x, c.oneCell' = true := fun x => ⟨rfl, by simp [celI, Value.oneCell']⟩
theorem celI_map (zs : List Int) : zs.flatMap celI = zs.map (Value.int .i64) := by
  induction zs with
  | nil => rfl
  | cons z zs ih => rw [List.flatMap_cons, ih]; rfl
theorem row_formI {B : Nat} {w : World} {v : Value} {l : List Int} (h : w.ownsRow B 3 1 v l.length (l.flatMap celI)) :
    ∃ A cap, v = .slice A l.length cap ∧ l.length ≤ cap ∧ cap ≤ 9223372036854775807 ∧ (l = [] ∧ A = none ∧ cap = 0 ∨ ∃ g, A = some ⟨g, 0, none⟩ ∧ B ≤ g ∧ ∀ k (h : k < l.length), w.cell? ⟨g, k, none⟩ = some (.int .i64 l[k])) := by
  rcases h.2 with ⟨hn, h0⟩ | ⟨g, cap, cur, hv, hb, hg, h1, h2, h3, h4⟩
  · refine ⟨none, 0, by rw [hn, h0], by omega, by omega, .inl ⟨List.length_eq_zero_iff.1 h0, rfl, rfl⟩⟩
  · refine ⟨_, cap, hv, h1, by unfold maxLen at h2; exact h2, .inr ⟨g, rfl, hb, fun k hk => ?_⟩⟩
    subst hv
    rw [World.ownsRow.cellAt h k (by omega), celI_map]
    simp [hk]
theorem ird_row {B : Nat} {w : World} {v : Value} {zs : List Int} (h : w.ownsRow B 3 1 v zs.length (zs.flatMap celI)) (hz : ∀ z ∈ zs, OkI z) (hl : zs.length ≤ 1000000) : IRd w v zs := by
  have h1 := SR.of_row (cs := celI) (fun x => (celI_len x).1) h hl
  obtain ⟨base, cap, rfl, h2, h3⟩ := h1
  exact ⟨base, cap, rfl, by omega, hz, h3.imp id fun ⟨b, hb, hc⟩ => ⟨b, 0, hb, fun k hk => by have := hc k hk 0 _ rfl; simpa using this⟩⟩
theorem append_any {ops : Array Oper} {rest : List Oper} {o : Oper} {a : Act} {Q : Exit → Act → World → Prop} {w : World} (hgd : o.guard = none) (s x : Operand)
    (ho : o.op = .call { callee := .builtin .append, args := #[s, x], argTypes := #[22, 22] }) (B : Nat) (v : Value) (vs : List Int) (hs : a.eval s = v) (hF : w.ownsRow B 3 1 v vs.length (vs.flatMap celI))
    (A : Option Addr) (c : Nat) (us : List Int) (hx : a.eval x = .slice A us.length c) (hu : us = [] ∨ ∃ b off, A = some ⟨b, off, none⟩ ∧ ∀ k (h : k < us.length), w.cell? ⟨b, off + k, none⟩ = some (.int .i64 us[k]))
    (hn : vs.length + us.length ≤ 1000000) (hB : B ≤ w.heap.size)
    (h : ∀ v' w', w'.ownsRow B 3 1 v' (vs ++ us).length ((vs ++ us).flatMap celI) → w.grownBy w' v.ownBlock → (us ≠ [] → ∃ g cap, v' = .slice (some ⟨g, 0, none⟩) (vs.length + us.length) cap) → (us = [] → v' = v ∧ w' = w) → wpList Try.prog ops Q rest (a.put o.dst v') w') : wpList Try.prog ops Q (o :: rest) a w := by
  obtain ⟨i0, hi, hz0, hz1, hz2⟩ := info_parts (show (Try.prog.info? 3).map (fun i => (i.zero, i.size, i.bytes)) = some (some (.int .i64 0), 1, 8) by kernel_rfl)
  refine wpList_plain hgd fun K hK => ?_
  by_cases h0 : us = []
  · subst h0
    obtain ⟨base, cap, hv, hle⟩ : ∃ base cap, v = .slice base vs.length cap ∧ vs.length ≤ cap := by
      rcases hF.2 with ⟨hn, h0⟩ | ⟨g, cap', cur, hv, hb, hg, h1, h2, h3, h4⟩
      · exact ⟨none, 0, by rw [hn, h0], by omega⟩
      · exact ⟨_, cap', hv, h1⟩
    have hsrc : Src Try.prog i0.size 22 (.slice A 0 c) 0 [] w := by
      rw [hz1]
      cases A with
      | none => exact Src.ofNil w Try.underlying22 c
      | some a => exact Src.ofSlice w Try.underlying22 a 0 c _ (by simp) (by simp) (by simp)
    have hr := run_append_nothing (P := Try.prog) w 22 22 o.type 3 i0 Try.underlying22 hi base vs.length cap hle (.slice A 0 c) hsrc
    rw [← hv] at hr
    unfold Oper.wp execOp
    simp only [List.length_nil] at hx
    simp only [ho, resolve, invoke, builtin, Sem.run_bind, Sem.run_pure, Result.andThen_ok, List.map_toArray, List.map_cons, List.map_nil, hs, hx, hr]
    exact hK _ _ (h v w (by simpa using hF) ⟨rfl, rfl, rfl, Nat.le_refl _, fun _ _ _ => rfl⟩ (fun h => absurd rfl h) (fun _ => ⟨rfl, rfl⟩))
  · obtain ⟨b, off, rfl, hcell⟩ := hu.resolve_left h0
    have hpos : 0 < us.length := List.length_pos_iff.2 h0
    obtain ⟨g, cap', w', hr, h2, h3, h4, h5⟩ := run_append_lies (P := Try.prog) w 22 o.type B 3 i0 _ 1 8 Try.underlying22 hi hz0 hz1 hz2 rfl (by decide) v vs.length _ hF ⟨b, off, none⟩ us.length c (us.map (Value.int .i64)) (by simp)
      (by
        intro j u hu
        have hj : j < us.length := by have := (List.getElem?_eq_some_iff.1 hu).1; simpa using this
        rw [List.getElem?_eq_getElem (by simpa using hj)] at hu
        simp only [List.getElem_map, Option.some.injEq] at hu
        subst hu
        rw [Go.WideShapes.add_plain]
        exact hcell j hj) (by intro u hu; obtain ⟨z, -, rfl⟩ := List.mem_map.1 hu; rfl) hpos (by unfold maxLen; omega) (by omega) hB w.heap.size rfl
    unfold Oper.wp execOp
    simp only [ho, resolve, invoke, builtin, Sem.run_bind, Sem.run_pure, Result.andThen_ok, List.map_toArray, List.map_cons, List.map_nil, hs, hx, hr] at *
    refine hK _ _ (h _ w' ?_ h3 (fun _ => ⟨g, cap', rfl⟩) (fun e => absurd e h0))
    rw [List.flatMap_append, List.length_append, celI_map us]
    exact h2
theorem bm_row {B E sz n b : Nat} {w w' : World} {v : Value} {xs : List Value} {f : Int → Bool} (h : BM w b f) (hr : w.ownsRow B E sz v n xs) (hg : w.grownBy w' v.ownBlock) : BM w' b f := by
  refine h.kept hg fun e => ?_
  obtain ⟨cs, hc⟩ := row_block hr e.symm
  obtain ⟨l, h1, -⟩ := h
  obtain ⟨es, ck, hb, -⟩ := h1.2.2
  rw [hb] at hc
  cases hc
theorem row_bm {B E sz n b : Nat} {w w' : World} {v : Value} {xs : List Value} {f : Int → Bool} (hr : w.ownsRow B E sz v n xs) (h : BM w b f) (hg : w.grownBy w' (some b)) : w'.ownsRow B E sz v n xs := by
  refine row_keepK hr fun g e => ?_
  obtain ⟨cs, hc⟩ := row_block hr e
  exact (grown_row h hg hc).trans hc.symm
theorem row_grown {B E sz n : Nat} {w0 w w' : World} {v : Value} {xs : List Value} (h : Ext w0 w) (hr : w.ownsRow B E sz v n xs) (hB : w0.heap.size ≤ B) (hg : w.grownBy w' v.ownBlock) : Ext w0 w' := by
  refine Below.trans h ⟨hg.os, hg.tape, hg.output, hg.size, fun k hk => hg.block k (by have := h.size; omega) fun e => by have := (hr.lt k e.symm).1; omega⟩
theorem row_other {B E E' sz n g : Nat} {w w' : World} {v : Value} {xs : List Value} {cs : Array Value} (hr : w.ownsRow B E sz v n xs) (hE : E' ≠ E) (hg : w.grownBy w' v.ownBlock) (h : w.heap[g]? = some (.cells cs E')) : w'.heap[g]? = some (.cells cs E') := by
  refine (hg.block g (Rg.lt_of_heap h) fun e => ?_).trans h
  obtain ⟨cs', hc⟩ := row_block hr e.symm
  rw [h] at hc
  injection hc with hc
  injection hc with _ hc
  exact hE hc
end Go.Proofs.Ytlekdhhgjhakgaa
