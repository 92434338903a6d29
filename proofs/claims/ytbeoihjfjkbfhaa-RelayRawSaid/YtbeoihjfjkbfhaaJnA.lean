/-
  Joined: the lemmas of this claim that other texts of it use, part 1. Nothing is asked.
-/
import Derived.Test.YtbeoihjfjkbfhaaBase
import Derived.Test.YtbeoihjfjkbfhaaRgD
import Derived.StillTail
import Derived.Deep.AppendLies
import Derived.Laws.Rows
import Derived.Laws.CopyRow
import Derived.Laws.CopyOwn
namespace Go.Proofs.Ytbeoihjfjkbfhaa.Rg
set_option linter.unusedVariables false
set_option linter.unusedSimpArgs false
open Go.RowKit Go.Proofs.Ytbeoihjfjkbfhaa

section
variable {P : Program} {ops : Array Oper} {md : Region.Mode} {w0 : World} {M : Nat → Option Obj} {n : Nat}

/-- What an operation, carried out in world w, may come to: the value v, the world grown. -/
def up (P : Program) (w : World) (v : Value) : Result Next → Prop
  | .ok (.value u) w' => w' = w ∧ u = v
  | .ok .skip w' => w' = w ∧ v = undef
  | .ok (.enter f args) w' => w' = w ∧ Calls P f args w (fun e w'' => e = .returned v ∧ Ext w w'')
  | _ => False
theorem up_value {w : World} {v : Value} : up P w v (.ok (.value v) w) := ⟨rfl, rfl⟩
theorem up_enter {w : World} {v : Value} {f : FuncId} {args : Array Value} (h : Calls P f args w (fun e w'' => e = .returned v ∧ Ext w w'')) : up P w v (.ok (.enter f args) w) := ⟨rfl, h⟩

def Y (P : Program) (ops : Array Oper) (w0 : World) (o : Oper) (v : Value) (a : Act) : Prop :=
  (Region.wanted o (yielded ops a.tmps) = true ∧ ∀ w, Ext w0 w → up P w v ((execOp a.eval o).run P w)) ∨ (Region.wanted o (yielded ops a.tmps) = false ∧ v = undef)

theorem Y.of_same {o : Oper} {v : Value} {a a' : Act} (hy : Y P ops w0 o v a) (he : execOp a'.eval o = execOp a.eval o)
    (hw : Region.wanted o (yielded ops a'.tmps) = Region.wanted o (yielded ops a.tmps)) : Y P ops w0 o v a' := by
  unfold Y at *
  rw [he, hw]
  exact hy

abbrev ptr (p : Nat) : Value := .pointer (some ⟨p, 0, none⟩)

/-- It makes the block ob, whatever the frame, and yields a pointer to it. -/
def Makes (P : Program) (o : Oper) (ob : Obj) : Prop :=
  o.guard = none ∧ ∀ (a : Act) (w : World), (execOp a.eval o).run P w = .ok (.value (ptr w.heap.size)) (w.alloc ob)

def stp (P : Program) (ops : Array Oper) (w0 : World) (M : Nat → Option Obj) (i : Nat) (K : Act → List (Nat × Obj) → Prop) (a : Act) (bs : List (Nat × Obj)) : Prop :=
  match ops[i]? with
  | none => False
  | some o => match M i with
    | some ob => Makes P o ob ∧ ∀ p, K (a.put o.dst (ptr p)) ((p, ob) :: bs)
    | none => ∃ v, Y P ops w0 o v a ∧ K (a.put o.dst v) bs

def WX (P : Program) (md : Region.Mode) (ops : Array Oper) (w0 : World) (M : Nat → Option Obj) (n : Nat) (T : Array Bool → Act → List (Nat × Obj) → Prop) : Nat → Array Bool → Act → List (Nat × Obj) → Prop
  | 0, listed, a, bs => T listed a bs
  | f + 1, listed, a, bs => Region.ready md ops listed ≠ [] ∧ ∀ i ∈ Region.ready md ops listed, i < n ∧ stp P ops w0 M i (WX P md ops w0 M n T f (listed.setIfInBounds i true)) a bs

/-- The blocks that were made lie there, apart from each other. -/
def F (w0 : World) (bs : List (Nat × Obj)) (w : World) : Prop :=
  bs.Pairwise (fun x y => x.1 ≠ y.1) ∧ ∀ b ∈ bs, w0.heap.size ≤ b.1 ∧ w.heap[b.1]? = some b.2

theorem lt_of_heap {w : World} {p : Nat} {o : Obj} (h : w.heap[p]? = some o) : p < w.heap.size := by
  rcases Nat.lt_or_ge p w.heap.size with h' | h'
  · exact h'
  · rw [Array.getElem?_eq_none h'] at h; cases h

theorem F.ext {bs : List (Nat × Obj)} {w w' : World} (h : F w0 bs w) (e : Ext w w') : F w0 bs w' :=
  ⟨h.1, fun b hb => ⟨(h.2 b hb).1, (e.block _ (lt_of_heap (h.2 b hb).2)).trans (h.2 b hb).2⟩⟩

theorem F.make {bs : List (Nat × Obj)} {w : World} (h : F w0 bs w) (e : Ext w0 w) (ob : Obj) : F w0 ((w.heap.size, ob) :: bs) (w.alloc ob) := by
  refine ⟨List.pairwise_cons.2 ⟨fun b hb => Nat.ne_of_gt (lt_of_heap (h.2 b hb).2), h.1⟩, fun b hb => ?_⟩
  rcases List.mem_cons.1 hb with rfl | hb
  · refine ⟨e.size, ?_⟩
    show (w.heap.push ob)[w.heap.size]? = _
    simp
  · exact ⟨(h.2 b hb).1, (Below.heap_alloc w ob b.1 (lt_of_heap (h.2 b hb).2)).trans (h.2 b hb).2⟩

theorem Y.wpOp {i : Nat} {o : Oper} {v : Value} {a : Act} {w : World} {K : Act → World → Prop} {Q : Exit → Act → World → Prop} (hi : ops[i]? = some o) (hy : Y P ops w0 o v a) (hw : Ext w0 w)
    (h : ∀ w', Ext w w' → K (a.put o.dst v) w') : wpOp P ops Q i K a w := by
  unfold Go.wpOp
  simp only [hi]
  rcases hy with ⟨hwt, hu⟩ | ⟨hwt, rfl⟩
  · simp only [hwt, if_true]
    refine .inl ?_
    have := hu w hw
    unfold Oper.wp
    generalize (execOp a.eval o).run P w = r at *
    cases r with
    | ok x w' =>
      cases x <;> simp only [up] at this <;> simp only [Oper.upon]
      case value u => obtain ⟨rfl, rfl⟩ := this; exact h _ (Ext.refl _)
      case skip => obtain ⟨rfl, rfl⟩ := this; exact h _ (Ext.refl _)
      case enter f args =>
        obtain ⟨rfl, hc⟩ := this
        exact hc.mono fun e w'' ⟨he, hb⟩ => by subst he; exact h _ hb
    | halt x w' => simp only [up] at this
  · simp only [hwt, Bool.false_eq_true, if_false]
    exact h _ (Ext.refl _)

theorem WX.sound {T : Array Bool → Act → List (Nat × Obj) → Prop} {Q : Exit → Act → World → Prop} {g : Nat}
    (hT : ∀ listed a bs w, T listed a bs → Ext w0 w → F w0 bs w → wpAny P md ops Q g listed a w) :
    ∀ (f : Nat) (listed : Array Bool) (a : Act) (bs : List (Nat × Obj)) (w : World), WX P md ops w0 M n T f listed a bs → Ext w0 w → F w0 bs w → wpAny P md ops Q (f + g) listed a w
  | 0, listed, a, bs, w, h, e, hF => by rw [Nat.zero_add]; exact hT _ _ _ _ h e hF
  | f + 1, listed, a, bs, w, h, e, hF => by
    rw [show f + 1 + g = (f + g) + 1 by omega]
    refine ⟨fun h0 => absurd h0 h.1, fun i hi => ?_⟩
    have hs := (h.2 i hi).2
    unfold stp at hs
    split at hs
    · exact hs.elim
    · rename_i o ho
      split at hs
      · rename_i ob hob
        obtain ⟨⟨hg, hm⟩, hp⟩ := hs
        have hwt : Region.wanted o (yielded ops a.tmps) = true := by simp [Region.wanted, hg]
        unfold wpOp
        simp only [ho, hwt, if_true]
        refine .inl ?_
        unfold Oper.wp
        rw [hm]
        simp only [Oper.upon]
        exact WX.sound hT f _ _ _ _ (hp w.heap.size) (e.alloc ob) (hF.make e ob)
      · obtain ⟨v, hy, hk⟩ := hs
        exact hy.wpOp ho e fun w' hw' => WX.sound hT f _ _ _ _ hk (e.trans hw') (hF.ext hw')

theorem WX_first {T : Array Bool → Act → List (Nat × Obj) → Prop} {i : Nat} {oi : Oper} {v : Value} (hi : ops[i]? = some oi) (hM : M i = none)
    (hsel : ∀ (j : Nat) (o : Oper) cs b, ops[j]? = some o → o.op ≠ .select cs b)
    (hs : Region.sinkB md ops n = true) (hc : Region.chainB md ops n = true) (hn : n < ops.size) (hin : i < n)
    (hdone : ∀ listed a bs, T listed a bs → ∀ j ∈ Region.ready md ops listed, n ≤ j) :
    ∀ (f : Nat) (listed : Array Bool) (a : Act) (bs : List (Nat × Obj)), HeadInv md ops n listed →
      (∀ j oj, ops[j]? = some oj → j ≠ i → listed.getD j true = false → (∀ e ∈ oj.after, Region.binds md e = true → e.on ≠ i) → oi.apart ops oj = true) →
      i ∈ Region.ready md ops listed → Y P ops w0 oi v a →
      WX P md ops w0 M n T f (listed.setIfInBounds i true) (a.put oi.dst v) bs → WX P md ops w0 M n T (f + 1) listed a bs := by
  have self : ∀ (K : Act → List (Nat × Obj) → Prop) (a : Act) (bs : List (Nat × Obj)), Y P ops w0 oi v a → K (a.put oi.dst v) bs → stp P ops w0 M i K a bs := by
    intro K a bs hy hk
    unfold stp
    simp only [hi, hM]
    exact ⟨v, hy, hk⟩
  intro f
  induction f with
  | zero =>
    intro listed a bs inv _ hr hy H
    have hun := (mem_ready.1 hr).1
    refine ⟨fun h => (by rw [h] at hr; cases hr), fun j hj => ?_⟩
    have hjn : j < n := by
      rcases Nat.lt_or_ge j n with h | h
      · exact h
      · exact absurd hj (tail_waits hs hc hn inv _ i rfl hin hun j h)
    refine ⟨hjn, ?_⟩
    by_cases hji : j = i
    · subst hji; exact self _ _ _ hy H
    · have := hdone _ _ _ H j (ready_mono hj hji)
      omega
  | succ f ih =>
    intro listed a bs inv hfree hr hy H
    have hun := (mem_ready.1 hr).1
    refine ⟨fun h => (by rw [h] at hr; cases hr), fun j hj => ?_⟩
    have hjn : j < n := by
      rcases Nat.lt_or_ge j n with h | h
      · exact h
      · exact absurd hj (tail_waits hs hc hn inv _ i rfl hin hun j h)
    refine ⟨hjn, ?_⟩
    by_cases hji : j = i
    · subst hji; exact self _ _ _ hy H
    · have h1 := (H.2 j (ready_mono hj hji)).2
      obtain ⟨hjun, oj, hoj, hall⟩ := mem_ready.1 hj
      have hnot : ∀ e ∈ oj.after, Region.binds md e = true → e.on ≠ i := fun e he hb heq => by
        have h1 := hall e he hb
        rw [heq, getD_both hun] at h1
        cases h1
      have hap := hfree j oj hoj hji hjun hnot
      obtain ⟨k1, k2, k3⟩ := Oper.apart_spec hap
      have keep : ∀ u, Y P ops w0 oi v (a.put oj.dst u) := fun u =>
        hy.of_same (execOp_put oi (fun cs b => hsel i oi cs b hi) a oj.dst u k3) (wanted_put oi a oj.dst u k3)
      have hfree' : ∀ k ok, ops[k]? = some ok → k ≠ i → (listed.setIfInBounds j true).getD k true = false →
          (∀ e ∈ ok.after, Region.binds md e = true → e.on ≠ i) → oi.apart ops ok = true := fun k ok hk hki hun hno => by
        refine hfree k ok hk hki ?_ hno
        by_cases hjk : j = k
        · subst hjk; exact hjun
        · rw [getD_set_ne true hjk] at hun; exact hun
      have inv' := inv.set hj hjn
      have hr' := ready_mono hr (Ne.symm hji)
      have go : ∀ (u : Value) (bs' : List (Nat × Obj)), WX P md ops w0 M n T f ((listed.setIfInBounds i true).setIfInBounds j true) ((a.put oi.dst v).put oj.dst u) bs' →
          WX P md ops w0 M n T (f + 1) (listed.setIfInBounds j true) (a.put oj.dst u) bs' := fun u bs' h => by
        refine ih _ _ _ inv' hfree' hr' (keep u) ?_
        rw [Array.setIfInBounds_comm _ _ hji, ← Act.put_comm a v u k2]
        exact h
      unfold stp at h1 ⊢
      simp only [hoj] at h1 ⊢
      split at h1
      · exact ⟨h1.1, fun p => go _ _ (h1.2 p)⟩
      · obtain ⟨u, hyj, hk⟩ := h1
        exact ⟨u, hyj.of_same (execOp_put oj (fun cs b => hsel j oj cs b hoj) a oi.dst v k1).symm (wanted_put oj a oi.dst v k1).symm, go _ _ hk⟩

/-- The walk in the text's order over the operations that only read. -/
def wk (P : Program) (ops : Array Oper) (w0 : World) (fin : Act → Prop) : List Oper → Act → Prop
  | [], a => fin a
  | o :: rest, a => ∃ v, Y P ops w0 o v a ∧ wk P ops w0 fin rest (a.put o.dst v)

theorem wk_nil {fin : Act → Prop} {a : Act} (h : fin a) : wk P ops w0 fin [] a := h
theorem wk_cons {fin : Act → Prop} {a : Act} {o : Oper} {rest : List Oper} (v : Value) (hw : Region.wanted o (yielded ops a.tmps) = true)
    (h : ∀ w, Ext w0 w → up P w v ((execOp a.eval o).run P w)) (k : wk P ops w0 fin rest (a.put o.dst v)) : wk P ops w0 fin (o :: rest) a := ⟨v, .inl ⟨hw, h⟩, k⟩
theorem wk_step {fin : Act → Prop} {a : Act} {o : Oper} {rest : List Oper} (hw : Region.wanted o (yielded ops a.tmps) = true)
    (h : ∃ v, (∀ w, Ext w0 w → up P w v ((execOp a.eval o).run P w)) ∧ wk P ops w0 fin rest (a.put o.dst v)) : wk P ops w0 fin (o :: rest) a := ⟨h.choose, .inl ⟨hw, h.choose_spec.1⟩, h.choose_spec.2⟩
theorem wk_skip {fin : Act → Prop} {a : Act} {o : Oper} {rest : List Oper} (hw : Region.wanted o (yielded ops a.tmps) = false)
    (k : wk P ops w0 fin rest (a.put o.dst undef)) : wk P ops w0 fin (o :: rest) a := ⟨undef, .inr ⟨hw, rfl⟩, k⟩

def lexX (md : Region.Mode) (ops : Array Oper) (base : Nat → Array Bool → Bool) : Nat → Nat → Array Bool → Bool
  | 0, k, listed => base k listed
  | f + 1, k, listed => (Region.ready md ops listed).contains k && Region.free md ops listed k && lexX md ops base f (k + 1) (listed.setIfInBounds k true)

/-- m allocations (0, 1 or 2) that may come in any order, then g operations in a forced one. -/
def mkB (md : Region.Mode) (ops : Array Oper) (g : Nat) : Nat → Nat → Array Bool → Bool
  | 0, k, listed => Region.seqB md ops g k listed
  | 1, k, listed => decide (Region.ready md ops listed = [k]) && Region.seqB md ops g (k + 1) (listed.setIfInBounds k true)
  | 2, k, listed => decide (Region.ready md ops listed = [k, k + 1]) && decide (Region.ready md ops (listed.setIfInBounds k true) = [k + 1]) && decide (Region.ready md ops (listed.setIfInBounds (k + 1) true) = [k]) &&
      Region.seqB md ops g (k + 2) ((listed.setIfInBounds k true).setIfInBounds (k + 1) true)
  | _, _, _ => false

def allB (md : Region.Mode) (ops : Array Oper) (n1 n : Nat) : Bool :=
  Region.noSelect ops && decide (n < ops.size) && decide (n1 ≤ n) && Region.sinkB md ops n && Region.chainB md ops n && lexX md ops (mkB md ops (ops.size - n) (n - n1)) n1 0 (Array.replicate ops.size false)

theorem WX_lex {T : Array Bool → Act → List (Nat × Obj) → Prop} {fin : Act → Prop} {n1 m : Nat} {base : Nat → Array Bool → Bool} (hsel : Region.noSelect ops = true) (hs : Region.sinkB md ops n = true) (hc : Region.chainB md ops n = true) (hn : n < ops.size) (hn1 : n1 ≤ n)
    (hM : ∀ i, i < n1 → M i = none) (hdone : ∀ listed a bs, T listed a bs → ∀ j ∈ Region.ready md ops listed, n ≤ j)
    (hb : ∀ listed a, HeadInv md ops n listed → base n1 listed = true → fin a → WX P md ops w0 M n T m listed a []) :
    ∀ (l : List Oper) (k : Nat) (listed : Array Bool) (a : Act), (∀ j, j < l.length → l[j]? = ops[k + j]?) → k + l.length = n1 → HeadInv md ops n listed →
    lexX md ops base l.length k listed = true → wk P ops w0 fin l a → WX P md ops w0 M n T (l.length + m) listed a []
  | [], k, listed, a, _, hk, inv, hB, h => by
    have : k = n1 := by simpa using hk
    subst this
    rw [List.length_nil, Nat.zero_add]
    exact hb listed a inv (by simpa [lexX] using hB) h
  | o :: l, k, listed, a, hl, hk, inv, hB, h => by
    have h0 : ops[k]? = some o := by simpa using (hl 0 (by simp)).symm
    simp only [List.length_cons, lexX, Bool.and_eq_true] at hB
    obtain ⟨⟨hr, hf⟩, hB'⟩ := hB
    have hkn : k < n1 := by simp only [List.length_cons] at hk; omega
    have hr' : k ∈ Region.ready md ops listed := by simpa using hr
    obtain ⟨v, hy, hK⟩ := h
    rw [List.length_cons, show l.length + 1 + m = (l.length + m) + 1 by omega]
    exact WX_first h0 (hM k hkn) (Region.noSelect_spec hsel) hs hc hn (by omega) hdone (l.length + m) listed a [] inv (Region.free_spec h0 hf) hr' hy
      (WX_lex hsel hs hc hn hn1 hM hdone hb l (k + 1) _ _ (fun j hj => by have := hl (j + 1) (by simp; omega); simpa [Nat.add_assoc, Nat.add_comm 1 j] using this) (by simp only [List.length_cons] at hk; omega) (inv.set hr' (by omega)) hB' hK)

/-- What is asked behind the reading operations: by how many allocations there are. -/
def fin (P : Program) (ops : Array Oper) (w0 : World) (M : Nat → Option Obj) (Q : Exit → Act → World → Prop) (n1 n : Nat) (tail : List Oper) (a : Act) : Prop :=
  match n - n1 with
  | 0 => ∀ w, Ext w0 w → wpList P ops Q tail a w
  | 1 => ∃ o ob, ops[n1]? = some o ∧ M n1 = some ob ∧ Makes P o ob ∧ ∀ p w, Ext w0 w → w0.heap.size ≤ p → w.heap[p]? = some ob → wpList P ops Q tail (a.put o.dst (ptr p)) w
  | 2 => ∃ o ob o' ob', ops[n1]? = some o ∧ M n1 = some ob ∧ Makes P o ob ∧ ops[n1 + 1]? = some o' ∧ M (n1 + 1) = some ob' ∧ Makes P o' ob' ∧ (∀ d, o.dst = some d → o'.dst ≠ some d) ∧
      ∀ p q w, Ext w0 w → p ≠ q → w0.heap.size ≤ p → w0.heap.size ≤ q → w.heap[p]? = some ob → w.heap[q]? = some ob' → wpList P ops Q tail ((a.put o.dst (ptr p)).put o'.dst (ptr q)) w
  | _ => False

theorem fin0 {Q : Exit → Act → World → Prop} {n1 : Nat} {tail : List Oper} {a : Act} (e : n - n1 = 0) (h : ∀ w, Ext w0 w → wpList P ops Q tail a w) : fin P ops w0 M Q n1 n tail a := by
  unfold fin; rw [e]; exact h
theorem fin1 {Q : Exit → Act → World → Prop} {n1 : Nat} {tail : List Oper} {a : Act} {o : Oper} {ob : Obj} (e : n - n1 = 1) (ho : ops[n1]? = some o) (hM : M n1 = some ob) (hk : Makes P o ob)
    (h : ∀ p w, Ext w0 w → w0.heap.size ≤ p → w.heap[p]? = some ob → wpList P ops Q tail (a.put o.dst (ptr p)) w) : fin P ops w0 M Q n1 n tail a := by
  unfold fin; rw [e]; exact ⟨o, ob, ho, hM, hk, h⟩
theorem fin2 {Q : Exit → Act → World → Prop} {n1 : Nat} {tail : List Oper} {a : Act} {o o' : Oper} {ob ob' : Obj} (e : n - n1 = 2) (ho : ops[n1]? = some o) (hM : M n1 = some ob) (hk : Makes P o ob)
    (ho' : ops[n1 + 1]? = some o') (hM' : M (n1 + 1) = some ob') (hk' : Makes P o' ob') (hne : ∀ d, o.dst = some d → o'.dst ≠ some d)
    (h : ∀ p q w, Ext w0 w → p ≠ q → w0.heap.size ≤ p → w0.heap.size ≤ q → w.heap[p]? = some ob → w.heap[q]? = some ob' → wpList P ops Q tail ((a.put o.dst (ptr p)).put o'.dst (ptr q)) w) : fin P ops w0 M Q n1 n tail a := by
  unfold fin; rw [e]; exact ⟨o, ob, o', ob', ho, hM, hk, ho', hM', hk', hne, h⟩
theorem cells_of {w : World} {p : Nat} {cs : Array Value} {t : TypeId} (h : w.heap[p]? = some (.cells cs t)) : (∀ i, w.cell? ⟨p, i, none⟩ = cs[i]?) ∧ (∀ i, w.frozen? ⟨p, i, none⟩ = false) ∧ p < w.heap.size :=
  ⟨fun i => by simp [World.cell?, h], fun i => by simp [World.frozen?, h], lt_of_heap h⟩

theorem wp_region {id : Nat} {Q : Exit → Act → World → Prop} {a : Act} {w : World} {l : List Oper} (n1 n : Nat) (M : Nat → Option Obj) (hM : ∀ i, i < n1 → M i = none) (hm : P.follows .mixedOrders = true) (hB : allB .any l.toArray n1 n = true)
    (h : wk P l.toArray w (fin P l.toArray w M Q n1 n (l.drop n)) (l.take n1) a) : (Code.region id l.toArray true).wp P Q a w := by
  simp only [allB, Bool.and_eq_true, decide_eq_true_eq] at hB
  obtain ⟨⟨⟨⟨⟨hsel, hn⟩, hn1⟩, hs⟩, hc⟩, hlex⟩ := hB
  have hn' : n < l.length := by simpa using hn
  have htl : (l.take n1).length = n1 := by simp; omega
  have hdl : (l.drop n).length = l.toArray.size - n := by simp
  have inv0 : HeadInv .any l.toArray n (Array.replicate l.toArray.size false) :=
    ⟨by simp, fun j oj _ hl => (by rw [getD_replicate_false] at hl; cases hl), fun t _ ht => getD_in (by simpa using ht) (getD_replicate_false _ _)⟩
  let T : Array Bool → Act → List (Nat × Obj) → Prop := fun listed a bs => Region.seqB .any l.toArray (l.toArray.size - n) n listed = true ∧ ∀ w', Ext w w' → F w bs w' → wpList P l.toArray Q (l.drop n) a w'
  have hdone : ∀ listed a bs, T listed a bs → ∀ j ∈ Region.ready .any l.toArray listed, n ≤ j := fun listed a bs hT => seqB_ready hT.1
  have hb : ∀ listed a, HeadInv .any l.toArray n listed → mkB .any l.toArray (l.toArray.size - n) (n - n1) n1 listed = true → fin P l.toArray w M Q n1 n (l.drop n) a → WX P .any l.toArray w M n T (n - n1) listed a [] := by
    intro listed a _ hB hf
    unfold fin at hf
    split at hf
    · rename_i e
      rw [e] at hB ⊢
      have : n1 = n := by omega
      subst this
      exact ⟨hB, fun w' e1 _ => hf w' e1⟩
    · rename_i e
      rw [e] at hB ⊢
      obtain ⟨o, ob, ho, hMo, hmk, hp⟩ := hf
      simp only [mkB, Bool.and_eq_true, decide_eq_true_eq] at hB
      have e1 : n = n1 + 1 := by omega
      refine ⟨by rw [hB.1]; simp, fun i hi => ?_⟩
      rw [hB.1] at hi
      have hi' : i = n1 := by simpa using hi
      subst hi'
      refine ⟨by omega, ?_⟩
      unfold stp
      simp only [ho, hMo]
      refine ⟨hmk, fun p => ?_⟩
      show T _ _ _
      refine ⟨by rw [e1]; rw [e1] at hB; exact hB.2, fun w' hw hF => ?_⟩
      have := hF.2 (p, ob) (by simp)
      exact hp p w' hw this.1 this.2
    · rename_i e
      rw [e] at hB ⊢
      obtain ⟨o, ob, o', ob', ho, hMo, hmk, ho', hMo', hmk', hne, hp⟩ := hf
      simp only [mkB, Bool.and_eq_true, decide_eq_true_eq] at hB
      have e1 : n = n1 + 2 := by omega
      obtain ⟨⟨⟨b1, b2⟩, b3⟩, b4⟩ := hB
      have fact : ∀ p q w', Ext w w' → (F w [(q, ob'), (p, ob)] w' ∨ F w [(p, ob), (q, ob')] w') → wpList P l.toArray Q (l.drop n) ((a.put o.dst (ptr p)).put o'.dst (ptr q)) w' := by
        intro p q w' hw hF
        rcases hF with hF | hF
        · have h1 := hF.2 (p, ob) (by simp); have h2 := hF.2 (q, ob') (by simp)
          have h3 := hF.1
          simp at h3
          exact hp p q w' hw (fun e => h3 e.symm) h1.1 h2.1 h1.2 h2.2
        · have h1 := hF.2 (p, ob) (by simp); have h2 := hF.2 (q, ob') (by simp)
          have h3 := hF.1
          simp at h3
          exact hp p q w' hw h3 h1.1 h2.1 h1.2 h2.2
      refine ⟨by rw [b1]; simp, fun i hi => ?_⟩
      rw [b1] at hi
      have hi' : i = n1 ∨ i = n1 + 1 := by simpa using hi
      rcases hi' with rfl | rfl
      · refine ⟨by omega, ?_⟩
        unfold stp
        simp only [ho, hMo]
        refine ⟨hmk, fun p => ?_⟩
        refine ⟨by rw [b2]; simp, fun j hj => ?_⟩
        rw [b2] at hj
        have hj' : j = i + 1 := by simpa using hj
        subst hj'
        refine ⟨by omega, ?_⟩
        unfold stp
        simp only [ho', hMo']
        refine ⟨hmk', fun q => ?_⟩
        show T _ _ _
        exact ⟨by rw [e1]; rw [e1] at b4; exact b4, fun w' hw hF => fact p q w' hw (.inl hF)⟩
      · refine ⟨by omega, ?_⟩
        unfold stp
        simp only [ho', hMo']
        refine ⟨hmk', fun q => ?_⟩
        refine ⟨by rw [b3]; simp, fun j hj => ?_⟩
        rw [b3] at hj
        have hj' : j = n1 := by simpa using hj
        subst hj'
        refine ⟨by omega, ?_⟩
        unfold stp
        simp only [ho, hMo]
        refine ⟨hmk, fun p => ?_⟩
        show T _ _ _
        rw [← Act.put_comm a (ptr p) (ptr q) hne, Array.setIfInBounds_comm _ _ (by omega)]
        exact ⟨by rw [e1]; rw [e1] at b4; exact b4, fun w' hw hF => fact p q w' hw (.inr hF)⟩
    · exact hf.elim
  have H := WX_lex (md := .any) (M := M) (T := T) hsel hs hc hn hn1 hM hdone hb (l.take n1) 0 _ a (fun j hj => by
    have hj' : j < n1 := by rw [htl] at hj; exact hj
    simp [hj']) (by simpa using htl) inv0 (by rw [htl]; exact hlex) h
  refine wp_region_any hm ?_
  have := WX.sound (Q := Q) (g := l.toArray.size - n) (fun listed a' bs w' hT hw hF => by
    have := wpAny_of_seq (md := .any) (Q' := Q) (l.drop n) n listed a' w' (fun j => by simp [List.getElem?_drop]) (by rw [hdl]; exact hT.1) (hT.2 w' hw hF)
    rwa [hdl] at this) _ _ _ _ { w with drawn := w.drawn + 1 } H (Ext.drew (Ext.refl w)) ⟨List.Pairwise.nil, fun b hb => by cases hb⟩
  rw [htl, show n1 + (n - n1) + (l.toArray.size - n) = l.toArray.size by omega] at this
  exact this
end
end Go.Proofs.Ytbeoihjfjkbfhaa.Rg

namespace Go.Proofs.Ytbeoihjfjkbfhaa.Rr
set_option linter.unusedVariables false
set_option linter.unusedSimpArgs false
open Go.RowKit Go.Proofs.Ytbeoihjfjkbfhaa Go.Proofs.Ytbeoihjfjkbfhaa.Rg

inductive Kd | y | z | m
deriving DecidableEq

/-- What a call may panic with. -/
abbrev Pnc := List PanicEntry → World → Prop

section
variable {P : Program} {ops : Array Oper} {md : Region.Mode} {w0 : World} {kd : Nat → Kd} {M : Nat → Obj × (Nat → Value)} {n : Nat} {Pn : Pnc} {E : List Nat}

abbrev Fs := List (World → Prop)
def Holds (fs : Fs) (w : World) : Prop := ∀ f ∈ fs, f w
/-- What holds of a world holds of every world grown out of it. -/
def Keeps (f : World → Prop) : Prop := ∀ w w', f w → Ext w w' → f w'
def Blk (w0 : World) (p : Nat) (ob : Obj) : World → Prop := fun w => w0.heap.size ≤ p ∧ w.heap[p]? = some ob
theorem Blk.keeps {p : Nat} {ob : Obj} : Keeps (Blk w0 p ob) := fun _ _ h e => ⟨h.1, (e.block _ (lt_of_heap h.2)).trans h.2⟩
abbrev Le (fs fs' : Fs) : Prop := ∀ f ∈ fs, f ∈ fs'
theorem Holds.le {fs fs' : Fs} {w : World} (h : Holds fs' w) (l : Le fs fs') : Holds fs w := fun f hf => h f (l f hf)

/-- One value, in every grown world in which the facts hold. -/
def Y (P : Program) (ops : Array Oper) (w0 : World) (fs : Fs) (o : Oper) (v : Value) (a : Act) : Prop :=
  (Region.wanted o (yielded ops a.tmps) = true ∧ ∀ w, Ext w0 w → Holds fs w → up P w v ((execOp a.eval o).run P w)) ∨ (Region.wanted o (yielded ops a.tmps) = false ∧ v = undef)
theorem Y.of_same {fs : Fs} {o : Oper} {v : Value} {a a' : Act} (hy : Y P ops w0 fs o v a) (he : execOp a'.eval o = execOp a.eval o)
    (hw : Region.wanted o (yielded ops a'.tmps) = Region.wanted o (yielded ops a.tmps)) : Y P ops w0 fs o v a' := by
  unfold Y at *
  rw [he, hw]
  exact hy
theorem Y.more {fs fs' : Fs} {o : Oper} {v : Value} {a : Act} (hy : Y P ops w0 fs o v a) (l : Le fs fs') : Y P ops w0 fs' o v a :=
  hy.imp (fun ⟨h1, h2⟩ => ⟨h1, fun w e hf => h2 w e (hf.le l)⟩) id

def upR (P : Program) (Pn : Pnc) (w : World) (R : Value → World → Prop) : Result Next → Prop
  | .ok (.value v) w' => Ext w w' ∧ R v w'
  | .ok (.enter f args) w' => w' = w ∧ Calls P f args w (fun e w'' => Ext w w'' ∧ ((∃ v, e = .returned v ∧ R v w'') ∨ ∃ c, e = .panicked c ∧ Pn c w''))
  | _ => False
theorem upR_value {w w' : World} {R : Value → World → Prop} {v : Value} (h : Ext w w') (r : R v w') : upR P Pn w R (.ok (.value v) w') := ⟨h, r⟩
theorem upR_enter {w : World} {R : Value → World → Prop} {f : FuncId} {args : Array Value} (h : Calls P f args w (fun e w'' => ∃ v, e = .returned v ∧ Ext w w'' ∧ R v w'')) : upR P Pn w R (.ok (.enter f args) w) := ⟨rfl, h.mono fun _ _ ⟨v, he, hx, hr⟩ => ⟨hx, .inl ⟨v, he, hr⟩⟩⟩
theorem upR_panic {w : World} {R : Value → World → Prop} {f : FuncId} {args : Array Value} (h : Calls P f args w (fun e w'' => ∃ c, e = .panicked c ∧ Ext w w'' ∧ Pn c w'')) : upR P Pn w R (.ok (.enter f args) w) := ⟨rfl, h.mono fun _ _ ⟨v, he, hx, hr⟩ => ⟨hx, .inr ⟨v, he, hr⟩⟩⟩

/-- An operation whose result is known by a relation. -/
def Z (P : Program) (Pn : Pnc) (ops : Array Oper) (w0 : World) (fs : Fs) (o : Oper) (R : Value → World → Prop) (a : Act) : Prop :=
  Region.wanted o (yielded ops a.tmps) = true ∧ (∀ v, Keeps (R v)) ∧ ∀ w, Ext w0 w → Holds fs w → upR P Pn w R ((execOp a.eval o).run P w)
theorem Z.of_same {fs : Fs} {o : Oper} {R : Value → World → Prop} {a a' : Act} (hy : Z P Pn ops w0 fs o R a) (he : execOp a'.eval o = execOp a.eval o)
    (hw : Region.wanted o (yielded ops a'.tmps) = Region.wanted o (yielded ops a.tmps)) : Z P Pn ops w0 fs o R a' := by
  unfold Z at *
  rw [he, hw]
  exact hy
theorem Z.more {fs fs' : Fs} {o : Oper} {R : Value → World → Prop} {a : Act} (hy : Z P Pn ops w0 fs o R a) (l : Le fs fs') : Z P Pn ops w0 fs' o R a :=
  ⟨hy.1, hy.2.1, fun w e hf => hy.2.2 w e (hf.le l)⟩

/-- It makes a block, and its value is known by the block's place. -/
def Mk (P : Program) (ops : Array Oper) (o : Oper) (m : Obj × (Nat → Value)) (a : Act) : Prop :=
  Region.wanted o (yielded ops a.tmps) = true ∧ ∀ w, (execOp a.eval o).run P w = .ok (.value (m.2 w.heap.size)) (w.alloc m.1)
theorem Mk.of_same {o : Oper} {m : Obj × (Nat → Value)} {a a' : Act} (hy : Mk P ops o m a) (he : execOp a'.eval o = execOp a.eval o)
    (hw : Region.wanted o (yielded ops a'.tmps) = Region.wanted o (yielded ops a.tmps)) : Mk P ops o m a' := by
  unfold Mk at *
  rw [he, hw]
  exact hy

/-- K: what goes on. -/
def stp (P : Program) (Pn : Pnc) (ops : Array Oper) (w0 : World) (kd : Nat → Kd) (M : Nat → Obj × (Nat → Value)) (i : Nat) (K : Act → List Nat → Fs → Prop) (a : Act) (bs : List Nat) (fs : Fs) : Prop :=
  match ops[i]? with
  | none => False
  | some o => match kd i with
    | .m => Mk P ops o (M i) a ∧ ∀ p, p ∉ bs → K (a.put o.dst ((M i).2 p)) (p :: bs) (Blk w0 p (M i).1 :: fs)
    | .z => ∃ R, Z P Pn ops w0 fs o R a ∧ ∀ v, K (a.put o.dst v) bs (R v :: fs)
    | .y => ∃ v, Y P ops w0 fs o v a ∧ K (a.put o.dst v) bs fs

/-- What may come next, where the first operation of the tail is made to wait for those of E besides. -/
def rdy (md : Region.Mode) (ops : Array Oper) (n : Nat) (E : List Nat) (listed : Array Bool) : List Nat := (Region.ready md ops listed).filter fun j => j != n || E.all fun i => listed.getD i false
theorem mem_rdy {j : Nat} {listed : Array Bool} : j ∈ rdy md ops n E listed ↔ j ∈ Region.ready md ops listed ∧ (j = n → ∀ i ∈ E, listed.getD i false = true) := by
  unfold rdy
  rw [List.mem_filter]
  refine and_congr_right fun _ => ?_
  by_cases h : j = n
  · simp [h]
  · simp [h]
theorem rdy_mono {i j : Nat} {listed : Array Bool} (hj : j ∈ rdy md ops n E listed) (hne : j ≠ i) : j ∈ rdy md ops n E (listed.setIfInBounds i true) := by
  rw [mem_rdy] at hj ⊢
  exact ⟨ready_mono hj.1 hne, fun h k hk => getD_set_true (hj.2 h k hk)⟩

def sinkE (md : Region.Mode) (ops : Array Oper) (E : List Nat) (n : Nat) : Bool :=
  (List.range n).all fun i => E.contains i || (List.range (n + 1)).any fun j => decide (i < j) && Region.waitsFor md ops j i

theorem tailE {listed : Array Bool} (hs : sinkE md ops E n = true) (hc : Region.chainB md ops n = true) (hn : n < ops.size) (inv : HeadInv md ops n listed) :
    ∀ (d i : Nat), n - i = d → i < n → listed.getD i true = false → ∀ t, n ≤ t → t ∉ rdy md ops n E listed := by
  intro d
  induction d using Nat.strongRecOn with
  | _ d ih =>
    intro i hd hi hun t ht hr
    obtain ⟨hrr, hEr⟩ := mem_rdy.1 hr
    obtain ⟨_, ot, hot, hall⟩ := mem_ready.1 hrr
    have htlt : t < ops.size := (Array.getElem?_eq_some_iff.1 hot).1
    by_cases htn : t = n
    · subst htn
      have h1 := List.all_eq_true.1 hs i (List.mem_range.2 hi)
      rw [Bool.or_eq_true] at h1
      rcases h1 with h1 | h1
      · have := hEr rfl i (by simpa using h1)
        rw [getD_both hun] at this; cases this
      · obtain ⟨j, hj, hj2⟩ := List.any_eq_true.1 h1
        simp only [Bool.and_eq_true, decide_eq_true_eq] at hj2
        obtain ⟨oj, hoj, e, he, hb, hon⟩ := Region.waitsFor_spec hj2.2
        have hjle : j ≤ t := by have := List.mem_range.1 hj; omega
        by_cases hjt : j = t
        · subst hjt
          have : oj = ot := Option.some.inj (hoj.symm.trans hot)
          subst this
          have h2 := hall e he hb
          rw [hon, getD_both hun] at h2
          cases h2
        · cases hl : listed.getD j false with
          | true =>
            have h2 := inv.closed j oj hoj hl e he hb
            rw [hon, getD_both hun] at h2
            cases h2
          | false =>
            have hjs : j < listed.size := by rw [inv.size]; omega
            exact ih (t - j) (by omega) j rfl (by omega) (getD_in hjs hl) t (Nat.le_refl _) hr
    · have h1 := List.all_eq_true.1 hc t (List.mem_range.2 htlt)
      simp only [Bool.or_eq_true, decide_eq_true_eq] at h1
      rcases h1 with h1 | h1
      · omega
      · obtain ⟨o', ho', e, he, hb, hon⟩ := Region.waitsFor_spec h1
        have : o' = ot := Option.some.inj (ho'.symm.trans hot)
        subst this
        have h2 := hall e he hb
        rw [hon, getD_both (inv.tail (t - 1) (by omega) (by omega))] at h2
        cases h2

/-- Without a guard, of the frame alone. -/
def fieldB (P : Program) (s : TypeId) (f : Nat) : Bool := match P.underlying s with
  | some (.struct fs) => (match fs[f]? with | some fl => (match P.info? fl.type with | some i => i.size != 0 | none => false) | none => false)
  | _ => false
def pureB (P : Program) (o : Oper) : Bool := o.guard.isNone && match o.op with | .extract _ _ => true | .move _ => true | .fieldAddr s _ f => fieldB P s f | _ => false
theorem pure_run {o : Oper} (h : pureB P o = true) {ρ : Operand → Value} {w : World} {v : Value} (hu : up P w v ((execOp ρ o).run P w)) : ∀ w', (execOp ρ o).run P w' = .ok (.value v) w' := by
  intro w'
  obtain ⟨dst, op, ty, ps, af, gd⟩ := o
  unfold pureB at h
  rw [Bool.and_eq_true] at h
  obtain ⟨-, h⟩ := h
  cases op <;> simp only [Bool.false_eq_true] at h
  case fieldAddr s x f =>
    unfold fieldB at h
    generalize hx : ρ x = u at *
    split at h
    · rename_i fs hs
      split at h
      · rename_i fl hf
        split at h
        · rename_i i hi
          have hz : i.size ≠ 0 := by simpa using h
          cases u <;> simp [go_sem, up, hx, hs, hf, hi, hz, Instr.fieldAt, underlying, fieldPlace, sizeOf, typeInfo, Instr.sureAddr] at hu ⊢
          rename_i a
          cases a <;> simp [go_sem, hs, hf, hi, hz, Instr.fieldAt, underlying, fieldPlace, sizeOf, typeInfo, Instr.sureAddr] at hu ⊢
          exact hu
        · cases h
      · cases h
    · cases h
  case move x => simp [go_sem, up] at hu ⊢; exact hu
  case extract x k =>
    generalize hx : ρ x = u at *
    cases u <;> simp [go_sem, up, hx] at hu ⊢
    rename_i vs
    cases hk : vs[k]? with
    | none => simp [go_sem, up, hk] at hu
    | some y => simp [go_sem, up, hk] at hu ⊢; exact hu

/-- What is asked of E. -/
def eagerB (P : Program) (md : Region.Mode) (ops : Array Oper) (kd : Nat → Kd) (E : List Nat) (n : Nat) : Bool :=
  E.all fun i => decide (i < n) && decide (kd i = .y) && Region.free md ops ((List.range ops.size).map fun j => Region.waitsFor md ops n j).toArray i && match ops[i]? with
    | some o => pureB P o && o.after.all fun e => !Region.binds md e || Region.waitsFor md ops n e.on
    | none => false

def WX (P : Program) (Pn : Pnc) (E : List Nat) (md : Region.Mode) (ops : Array Oper) (w0 : World) (kd : Nat → Kd) (M : Nat → Obj × (Nat → Value)) (n : Nat) (T : Array Bool → Act → Fs → Prop) : Nat → Array Bool → Act → List Nat → Fs → Prop
  | 0, listed, a, _, fs => T listed a fs
  | f + 1, listed, a, bs, fs => rdy md ops n E listed ≠ [] ∧ ∀ i ∈ rdy md ops n E listed, i < n ∧ stp P Pn ops w0 kd M i (WX P Pn E md ops w0 kd M n T f (listed.setIfInBounds i true)) a bs fs

theorem le_cons {fs fs' : Fs} (l : Le fs fs') (f : World → Prop) : Le (f :: fs) (f :: fs') := fun g hg => by
  rcases List.mem_cons.1 hg with rfl | hg
  · exact List.mem_cons_self
  · exact List.mem_cons_of_mem _ (l g hg)
theorem le_swap {fs : Fs} (f g : World → Prop) : Le (f :: g :: fs) (g :: f :: fs) := fun x hx => by
  simp only [List.mem_cons] at hx ⊢
  rcases hx with h | h | h
  · exact .inr (.inl h)
  · exact .inl h
  · exact .inr (.inr h)

theorem WX.mono {T : Array Bool → Act → Fs → Prop} (hT : ∀ listed a fs fs', Le fs fs' → T listed a fs → T listed a fs') :
    ∀ (f : Nat) (listed : Array Bool) (a : Act) (bs bs' : List Nat) (fs fs' : Fs), (∀ b ∈ bs, b ∈ bs') → Le fs fs' → WX P Pn E md ops w0 kd M n T f listed a bs fs → WX P Pn E md ops w0 kd M n T f listed a bs' fs'
  | 0, _, _, _, _, _, _, _, l, h => hT _ _ _ _ l h
  | f + 1, listed, a, bs, bs', fs, fs', hb, l, h => by
    refine ⟨h.1, fun i hi => ⟨(h.2 i hi).1, ?_⟩⟩
    have h1 := (h.2 i hi).2
    unfold stp at h1 ⊢
    split at h1
    · exact h1.elim
    · split at h1
      · refine ⟨h1.1, fun p hp => WX.mono hT f _ _ _ _ _ _ (fun b hb' => ?_) (le_cons l _) (h1.2 p fun h => hp (hb _ h))⟩
        rcases List.mem_cons.1 hb' with rfl | hb'
        · exact List.mem_cons_self
        · exact List.mem_cons_of_mem _ (hb b hb')
      · obtain ⟨R, hz, hk⟩ := h1
        exact ⟨R, hz.more l, fun v => WX.mono hT f _ _ _ _ _ _ hb (le_cons l _) (hk v)⟩
      · obtain ⟨v, hy, hk⟩ := h1
        exact ⟨v, hy.more l, WX.mono hT f _ _ _ _ _ _ hb l hk⟩

theorem Y.wpOp {fs : Fs} {i : Nat} {o : Oper} {v : Value} {a : Act} {w : World} {K : Act → World → Prop} {Q : Exit → Act → World → Prop} (hi : ops[i]? = some o) (hy : Y P ops w0 fs o v a) (hw : Ext w0 w) (hf : Holds fs w)
    (h : ∀ w', Ext w w' → K (a.put o.dst v) w') : wpOp P ops Q i K a w := by
  unfold Go.wpOp
  simp only [hi]
  rcases hy with ⟨hwt, hu⟩ | ⟨hwt, rfl⟩
  · simp only [hwt, if_true]
    refine .inl ?_
    have := hu w hw hf
    unfold Oper.wp
    generalize (execOp a.eval o).run P w = r at *
    cases r with
    | ok x w' =>
      cases x <;> simp only [up] at this <;> simp only [Oper.upon]
      case value u => obtain ⟨rfl, rfl⟩ := this; exact h _ (Ext.refl _)
      case skip => obtain ⟨rfl, rfl⟩ := this; exact h _ (Ext.refl _)
      case enter f args =>
        obtain ⟨rfl, hc⟩ := this
        exact hc.mono fun e w'' ⟨he, hb⟩ => by subst he; exact h _ hb
    | halt x w' => simp only [up] at this
  · simp only [hwt, Bool.false_eq_true, if_false]
    exact h _ (Ext.refl _)

theorem Z.wpOp {fs : Fs} {i : Nat} {o : Oper} {R : Value → World → Prop} {a : Act} {w : World} {K : Act → World → Prop} {Q : Exit → Act → World → Prop} (hi : ops[i]? = some o) (hy : Z P Pn ops w0 fs o R a) (hw : Ext w0 w) (hf : Holds fs w)
    (hQ : ∀ c w', Ext w0 w' → Pn c w' → Q (.panic c) a w')
    (h : ∀ v w', Ext w w' → R v w' → K (a.put o.dst v) w') : wpOp P ops Q i K a w := by
  unfold Go.wpOp
  obtain ⟨hwt, _, hu⟩ := hy
  simp only [hi, hwt, if_true]
  refine .inl ?_
  have := hu w hw hf
  unfold Oper.wp
  generalize (execOp a.eval o).run P w = r at *
  cases r with
  | ok x w' =>
    cases x <;> simp only [upR] at this
    case value v =>
      simp only [Oper.upon]
      exact h _ _ this.1 this.2
    case enter f args =>
      simp only [Oper.upon]
      obtain ⟨rfl, hc⟩ := this
      refine hc.mono fun e w'' ⟨hb, hr⟩ => ?_
      rcases hr with ⟨v, he, hr⟩ | ⟨c, he, hr⟩
      · subst he; exact h _ _ hb hr
      · subst he; exact hQ _ _ (hw.trans hb) hr
  | halt x w' => simp only [upR] at this

theorem Holds.cons {f : World → Prop} {fs : Fs} {w : World} (h : f w) (hs : Holds fs w) : Holds (f :: fs) w := fun g hg => by
  rcases List.mem_cons.1 hg with rfl | hg
  · exact h
  · exact hs g hg

theorem put_defers (a : Act) (d : Option Tmp) (v : Value) : (a.put d v).defers = a.defers := by cases d <;> rfl

theorem WX.sound {T : Array Bool → Act → Fs → Prop} {Q : Exit → Act → World → Prop} {g : Nat} {ds : List Deferred}
    (hT : ∀ listed a fs w, T listed a fs → Ext w0 w → Holds fs w → wpAny P md ops Q g listed a w) (hQ : ∀ c a w', a.defers = ds → Ext w0 w' → Pn c w' → Q (.panic c) a w')
    (hsel : ∀ (j : Nat) (o : Oper) cs b, ops[j]? = some o → o.op ≠ .select cs b) (hEB : eagerB P md ops kd E n = true) (hQp : E ≠ [] → ∀ c a d v w, Q (.panic c) (a.put d v) w → Q (.panic c) a w) :
    ∀ (f : Nat) (listed : Array Bool) (a : Act) (bs : List Nat) (fs : Fs) (w : World), a.defers = ds → HeadInv md ops n listed → WX P Pn E md ops w0 kd M n T f listed a bs fs → Ext w0 w → (∀ b ∈ bs, b < w.heap.size) → Holds fs w → (∀ x ∈ fs, Keeps x) → wpAny P md ops Q (f + g) listed a w
  | 0, listed, a, bs, fs, w, _, _, h, e, _, hH, _ => by rw [Nat.zero_add]; exact hT _ _ _ _ h e hH
  | f + 1, listed, a, bs, fs, w, hd, inv, h, e, hB, hH, hK => by
    rw [show f + 1 + g = (f + g) + 1 by omega]
    have ext : ∀ w', Ext w w' → Holds fs w' := fun w' hw' x hx => hK x hx w w' (hH x hx) hw'
    have blw : ∀ w', Ext w w' → ∀ b ∈ bs, b < w'.heap.size := fun w' hw' b hb => Nat.lt_of_lt_of_le (hB b hb) hw'.size
    by_cases hE : ∃ i ∈ E, n ∈ Region.ready md ops listed ∧ listed.getD i false = false
    · obtain ⟨i, hiE, hnr, hun⟩ := hE
      have hb := List.all_eq_true.1 hEB i hiE
      simp only [Bool.and_eq_true, decide_eq_true_eq] at hb
      obtain ⟨⟨⟨hin, hky⟩, hfree⟩, hb⟩ := hb
      split at hb
      · rename_i o ho
        rw [Bool.and_eq_true] at hb
        obtain ⟨hpu, haf⟩ := hb
        obtain ⟨_, on, hon, hall⟩ := mem_ready.1 hnr
        have his : i < listed.size := by rw [inv.size]; exact (Array.getElem?_eq_some_iff.1 ho).1
        have hir : i ∈ Region.ready md ops listed := mem_ready.2 ⟨getD_in his hun, o, ho, fun e he hbi => by
          have h1 := Array.all_eq_true_iff_forall_mem.1 haf e he
          rw [hbi, Bool.not_true, Bool.false_or] at h1
          obtain ⟨on', hon', e', he', hb', hee⟩ := Region.waitsFor_spec h1
          have : on' = on := Option.some.inj (hon'.symm.trans hon)
          subst this
          rw [← hee]
          exact hall e' he' hb'⟩
        have hi : i ∈ rdy md ops n E listed := mem_rdy.2 ⟨hir, fun h => absurd h (by omega)⟩
        have hi0 := hir
        have hs := (h.2 i hi).2
        unfold stp at hs
        simp only [ho, hky] at hs
        obtain ⟨v, hy, hk⟩ := hs
        have hyi : Yields P ops o v a := hy.imp (fun ⟨h1, h2⟩ => ⟨h1, pure_run hpu (h2 w e hH)⟩) id
        refine wpAny_first ho hsel (fun c a w => hQp (fun h => by rw [h] at hiE; cases hiE) c a _ _ w) (f + g) listed a w (fun j oj hj hne hju hno => Region.free_spec ho hfree j oj hj hne (by
          have hjs := (Array.getElem?_eq_some_iff.1 hj).1
          cases hwj : Region.waitsFor md ops n j with
          | false => simp [hjs, hwj]
          | true =>
            obtain ⟨on', hon', e', he', hb', hee⟩ := Region.waitsFor_spec hwj
            have : on' = on := Option.some.inj (hon'.symm.trans hon)
            subst this
            have := hall e' he' hb'
            rw [hee, getD_both hju] at this
            cases this) hno) hir hyi ?_
        exact WX.sound hT hQ hsel hEB hQp f _ _ _ _ _ ((put_defers _ _ _).trans hd) (inv.set hi0 (h.2 i hi).1) hk e hB hH hK
      · cases hb
    have hrd : ∀ j, j ∈ Region.ready md ops listed → j ∈ rdy md ops n E listed := fun j hj => mem_rdy.2 ⟨hj, fun hjn i hiE => by
      cases hc : listed.getD i false with
      | true => rfl
      | false => exact absurd ⟨i, hiE, hjn ▸ hj, hc⟩ hE⟩
    refine ⟨fun h0 => absurd (List.eq_nil_iff_forall_not_mem.2 fun j hj => by rw [h0] at hrd; have := (mem_rdy.1 hj).1; rw [h0] at this; cases this) h.1, fun i hi0 => ?_⟩
    have hi := hrd i hi0
    have hs := (h.2 i hi).2
    unfold stp at hs
    split at hs
    · exact hs.elim
    · rename_i o ho
      split at hs
      · obtain ⟨⟨hwt, hm⟩, hp⟩ := hs
        unfold wpOp
        simp only [ho, hwt, if_true]
        refine .inl ?_
        unfold Oper.wp
        rw [hm]
        simp only [Oper.upon]
        have e1 : Ext w (w.alloc (M i).1) := (Ext.refl w).alloc _
        have hsz : (w.alloc (M i).1).heap.size = w.heap.size + 1 := by show (w.heap.push _).size = _; simp
        refine WX.sound hT hQ hsel hEB hQp f _ _ _ _ _ ((put_defers _ _ _).trans hd) (inv.set hi0 (h.2 i hi).1) (hp w.heap.size fun h => Nat.lt_irrefl _ (hB _ h)) (e.alloc _) (fun b hb => ?_) (Holds.cons ⟨e.size, ?_⟩ (ext _ e1)) fun x hx => ?_
        · rcases List.mem_cons.1 hb with rfl | hb
          · omega
          · exact blw _ e1 b hb
        · show (w.heap.push _)[w.heap.size]? = _
          simp
        · rcases List.mem_cons.1 hx with rfl | hx
          · exact Blk.keeps
          · exact hK x hx
      · obtain ⟨R, hz, hk⟩ := hs
        exact hz.wpOp ho e hH (fun c w' => hQ c a w' hd) fun v w' hw' hr => WX.sound hT hQ hsel hEB hQp f _ _ _ _ _ ((put_defers _ _ _).trans hd) (inv.set hi0 (h.2 i hi).1) (hk v) (e.trans hw') (blw w' hw') (Holds.cons hr (ext w' hw'))
          (fun x hx => (List.mem_cons.1 hx).elim (fun e => e ▸ hz.2.1 v) (fun h => hK x h))
      · obtain ⟨v, hy, hk⟩ := hs
        exact hy.wpOp ho e hH fun w' hw' => WX.sound hT hQ hsel hEB hQp f _ _ _ _ _ ((put_defers _ _ _).trans hd) (inv.set hi0 (h.2 i hi).1) hk (e.trans hw') (blw w' hw') (ext w' hw') hK

/-- What the first step needs of an operation i: its kind, and what follows it. -/
def At (P : Program) (Pn : Pnc) (ops : Array Oper) (w0 : World) (M : Nat → Obj × (Nat → Value)) (i : Nat) (oi : Oper) (k : Kd) (a : Act) (fs : Fs) (R : Value → World → Prop) (u : Value) : Prop :=
  match k with
  | .m => Mk P ops oi (M i) a
  | .z => Z P Pn ops w0 fs oi R a
  | .y => Y P ops w0 fs oi u a
def Goes (w0 : World) (M : Nat → Obj × (Nat → Value)) (i : Nat) (oi : Oper) (k : Kd) (K : Act → List Nat → Fs → Prop) (a : Act) (bs : List Nat) (fs : Fs) (R : Value → World → Prop) (u : Value) : Prop :=
  match k with
  | .m => ∀ p, p ∉ bs → K (a.put oi.dst ((M i).2 p)) (p :: bs) (Blk w0 p (M i).1 :: fs)
  | .z => ∀ v, K (a.put oi.dst v) bs (R v :: fs)
  | .y => K (a.put oi.dst u) bs fs

theorem stp_of {i : Nat} {oi : Oper} {R : Value → World → Prop} {u : Value} (hi : ops[i]? = some oi) {K : Act → List Nat → Fs → Prop} {a : Act} {bs : List Nat} {fs : Fs} (h1 : At P Pn ops w0 M i oi (kd i) a fs R u) (h2 : Goes w0 M i oi (kd i) K a bs fs R u) : stp P Pn ops w0 kd M i K a bs fs := by
  unfold stp
  simp only [hi]
  unfold At Goes at *
  revert h1 h2
  cases kd i <;> intro h1 h2
  · exact ⟨u, h1, h2⟩
  · exact ⟨R, h1, h2⟩
  · exact ⟨h1, h2⟩
theorem of_stp {i : Nat} {oi : Oper} (hi : ops[i]? = some oi) {K : Act → List Nat → Fs → Prop} {a : Act} {bs : List Nat} {fs : Fs} (h : stp P Pn ops w0 kd M i K a bs fs) : ∃ R u, At P Pn ops w0 M i oi (kd i) a fs R u ∧ Goes w0 M i oi (kd i) K a bs fs R u := by
  unfold stp at h
  simp only [hi] at h
  unfold At Goes
  revert h
  cases kd i <;> intro h
  · obtain ⟨v, h1, h2⟩ := h; exact ⟨fun _ _ => True, v, h1, h2⟩
  · obtain ⟨R, h1, h2⟩ := h; exact ⟨R, undef, h1, h2⟩
  · exact ⟨fun _ _ => True, undef, h⟩
theorem At.of_same {i : Nat} {oi : Oper} {k : Kd} {a a' : Act} {fs : Fs} {R : Value → World → Prop} {u : Value} (h : At P Pn ops w0 M i oi k a fs R u) (he : execOp a'.eval oi = execOp a.eval oi)
    (hw : Region.wanted oi (yielded ops a'.tmps) = Region.wanted oi (yielded ops a.tmps)) : At P Pn ops w0 M i oi k a' fs R u := by
  unfold At at *
  cases k
  · exact Y.of_same h he hw
  · exact Z.of_same h he hw
  · exact Mk.of_same h he hw
theorem At.more {i : Nat} {oi : Oper} {k : Kd} {a : Act} {fs fs' : Fs} {R : Value → World → Prop} {u : Value} (h : At P Pn ops w0 M i oi k a fs R u) (l : Le fs fs') : At P Pn ops w0 M i oi k a fs' R u := by
  unfold At at *
  cases k
  · exact Y.more h l
  · exact Z.more h l
  · exact h
theorem At.less {i : Nat} {oi : Oper} {a : Act} {fs fs' : Fs} {R : Value → World → Prop} {u : Value} (h : At P Pn ops w0 M i oi .m a fs R u) : At P Pn ops w0 M i oi .m a fs' R u := h

theorem fresh_nat : ∀ bs : List Nat, ∃ p, ∀ b ∈ bs, b < p
  | [] => ⟨0, fun _ h => by cases h⟩
  | b :: bs => by
    obtain ⟨p, hp⟩ := fresh_nat bs
    refine ⟨p + b + 1, fun x hx => ?_⟩
    rcases List.mem_cons.1 hx with rfl | hx
    · omega
    · have := hp x hx; omega

/-- The value and the facts that a step of kind k brings. -/
theorem Goes.some {i : Nat} {oi : Oper} {k : Kd} {K : Act → List Nat → Fs → Prop} {a : Act} {bs : List Nat} {fs : Fs} {R : Value → World → Prop} {u : Value} (h : Goes w0 M i oi k K a bs fs R u) : ∃ v bs' fs', K (a.put oi.dst v) bs' fs' := by
  unfold Goes at h
  cases k
  · exact ⟨_, _, _, h⟩
  · exact ⟨_, _, _, h undef⟩
  · obtain ⟨p, hp⟩ := fresh_nat bs
    exact ⟨_, _, _, h p fun h => Nat.lt_irrefl _ (hp p h)⟩

/-- Whatever is listed ahead of i: the others that come up are allocations. -/
def Alone (md : Region.Mode) (ops : Array Oper) (kd : Nat → Kd) (n : Nat) (i : Nat) (listed : Array Bool) : Prop :=
  ∀ listed', HeadInv md ops n listed' → (∀ k, listed.getD k true = true → listed'.getD k true = true) → listed'.getD i true = false → ∀ j ∈ Region.ready md ops listed', j ≠ i → j < n → kd j = .m

theorem WX_first {T : Array Bool → Act → Fs → Prop} {i : Nat} {oi : Oper} (hi : ops[i]? = some oi) (hT : ∀ listed a fs fs', Le fs fs' → T listed a fs → T listed a fs')
    (hsel : ∀ (j : Nat) (o : Oper) cs b, ops[j]? = some o → o.op ≠ .select cs b)
    (hs : sinkE md ops E n = true) (hc : Region.chainB md ops n = true) (hn : n < ops.size) (hin : i < n)
    (hdone : ∀ listed a fs, T listed a fs → ∀ j ∈ rdy md ops n E listed, n ≤ j) (R : Value → World → Prop) (u : Value) :
    ∀ (f : Nat) (listed : Array Bool) (a : Act) (bs : List Nat) (fs : Fs), HeadInv md ops n listed →
      (∀ j oj, ops[j]? = some oj → j ≠ i → listed.getD j true = false → (∀ e ∈ oj.after, Region.binds md e = true → e.on ≠ i) → oi.apart ops oj = true) →
      (kd i = .y ∨ Alone md ops kd n i listed) →
      i ∈ rdy md ops n E listed → At P Pn ops w0 M i oi (kd i) a fs R u →
      Goes w0 M i oi (kd i) (WX P Pn E md ops w0 kd M n T f (listed.setIfInBounds i true)) a bs fs R u → WX P Pn E md ops w0 kd M n T (f + 1) listed a bs fs := by
  intro f
  induction f with
  | zero =>
    intro listed a bs fs inv _ _ hr hy H
    have hun := (mem_ready.1 (mem_rdy.1 hr).1).1
    refine ⟨fun h => (by rw [h] at hr; cases hr), fun j hj => ?_⟩
    have hjn : j < n := by
      rcases Nat.lt_or_ge j n with h | h
      · exact h
      · exact absurd hj (tailE hs hc hn inv _ i rfl hin hun j h)
    refine ⟨hjn, ?_⟩
    by_cases hji : j = i
    · subst hji; exact stp_of hi hy H
    · obtain ⟨_, _, _, h⟩ := H.some
      have := hdone _ _ _ h j (rdy_mono hj hji)
      omega
  | succ f ih =>
    intro listed a bs fs inv hfree hal hr hy H
    have hun := (mem_ready.1 (mem_rdy.1 hr).1).1
    refine ⟨fun h => (by rw [h] at hr; cases hr), fun j hj => ?_⟩
    have hjn : j < n := by
      rcases Nat.lt_or_ge j n with h | h
      · exact h
      · exact absurd hj (tailE hs hc hn inv _ i rfl hin hun j h)
    refine ⟨hjn, ?_⟩
    by_cases hji : j = i
    · subst hji; exact stp_of hi hy H
    · obtain ⟨hjun, oj, hoj, hall⟩ := mem_ready.1 (mem_rdy.1 hj).1
      have hnot : ∀ e ∈ oj.after, Region.binds md e = true → e.on ≠ i := fun e he hb heq => by
        have h1 := hall e he hb
        rw [heq, getD_both hun] at h1
        cases h1
      have hap := hfree j oj hoj hji hjun hnot
      obtain ⟨k1, k2, k3⟩ := Oper.apart_spec hap
      have keep : ∀ v, At P Pn ops w0 M i oi (kd i) (a.put oj.dst v) fs R u := fun v =>
        hy.of_same (execOp_put oi (fun cs b => hsel i oi cs b hi) a oj.dst v k3) (wanted_put oi a oj.dst v k3)
      have hfree' : ∀ k ok, ops[k]? = some ok → k ≠ i → (listed.setIfInBounds j true).getD k true = false →
          (∀ e ∈ ok.after, Region.binds md e = true → e.on ≠ i) → oi.apart ops ok = true := fun k ok hk hki hun hno => by
        refine hfree k ok hk hki ?_ hno
        by_cases hjk : j = k
        · subst hjk; exact hjun
        · rw [getD_set_ne true hjk] at hun; exact hun
      have hal' : kd i = .y ∨ Alone md ops kd n i (listed.setIfInBounds j true) := hal.imp id fun h l' i' m' u' => h l' i' (fun k hk => m' k (by
        by_cases hjk : j = k
        · subst hjk; rcases Nat.lt_or_ge j listed.size with h | h <;> simp [h]
        · rw [getD_set_ne true hjk]; exact hk)) u'
      have inv' := inv.set (mem_rdy.1 hj).1 hjn
      have hr' := rdy_mono hr (Ne.symm hji)
      have back : ∀ (v v' : Value), execOp (a.put oi.dst v).eval oj = execOp a.eval oj ∧ Region.wanted oj (yielded ops (a.put oi.dst v).tmps) = Region.wanted oj (yielded ops a.tmps) :=
        fun v _ => ⟨execOp_put oj (fun cs b => hsel j oj cs b hoj) a oi.dst v k1, wanted_put oj a oi.dst v k1⟩
      have swap : ∀ (v v' : Value) (bs' bs'' : List Nat) (fs' fs'' : Fs), (∀ b ∈ bs', b ∈ bs'') → Le fs' fs'' → WX P Pn E md ops w0 kd M n T f ((listed.setIfInBounds i true).setIfInBounds j true) ((a.put oi.dst v).put oj.dst v') bs' fs' →
          WX P Pn E md ops w0 kd M n T f ((listed.setIfInBounds j true).setIfInBounds i true) ((a.put oj.dst v').put oi.dst v) bs'' fs'' := fun v v' bs' bs'' fs' fs'' hb hl h => by
        rw [Array.setIfInBounds_comm _ _ hji, ← Act.put_comm a v v' k2]
        exact h.mono hT f _ _ _ _ _ _ hb hl
      -- j is an allocation, or i reads
      rcases hal with hky | hal
      · rw [hky] at H hy keep
        have h1 := of_stp hoj (H.2 j (rdy_mono hj hji)).2
        obtain ⟨Rj, uj, hAt, hGo⟩ := h1
        refine stp_of hoj (R := Rj) (u := uj) (hAt.of_same (back u u).1.symm (back u u).2.symm) ?_
        have run : ∀ (v : Value) (bs' : List Nat) (fs' : Fs), Le fs fs' → WX P Pn E md ops w0 kd M n T f ((listed.setIfInBounds i true).setIfInBounds j true) ((a.put oi.dst u).put oj.dst v) bs' fs' → WX P Pn E md ops w0 kd M n T (f + 1) (listed.setIfInBounds j true) (a.put oj.dst v) bs' fs' := by
          intro v bs' fs' hl h
          refine ih _ _ _ _ inv' hfree' hal' hr' (by rw [hky]; exact (keep v).more hl) ?_
          rw [hky]
          exact swap u v bs' bs' fs' fs' (fun _ h => h) (fun _ h => h) h
        revert hGo
        unfold Goes
        cases kd j <;> intro hGo
        · exact run _ _ _ (fun _ h => h) hGo
        · exact fun v => run _ _ _ (fun _ h => List.mem_cons_of_mem _ h) (hGo v)
        · exact fun p hp => run _ _ _ (fun _ h => List.mem_cons_of_mem _ h) (hGo p hp)
      · have hkm : kd j = .m := hal listed inv (fun _ h => h) hun j (mem_rdy.1 hj).1 hji hjn
        have from_i : ∀ v bs' fs', WX P Pn E md ops w0 kd M n T (f + 1) (listed.setIfInBounds i true) (a.put oi.dst v) bs' fs' → Mk P ops oj (M j) a ∧ ∀ q, q ∉ bs' → WX P Pn E md ops w0 kd M n T f ((listed.setIfInBounds i true).setIfInBounds j true) ((a.put oi.dst v).put oj.dst ((M j).2 q)) (q :: bs') (Blk w0 q (M j).1 :: fs') := by
          intro v bs' fs' h
          have h1 := (h.2 j (rdy_mono hj hji)).2
          unfold stp at h1
          simp only [hoj, hkm] at h1
          exact ⟨h1.1.of_same (back v v).1.symm (back v v).2.symm, h1.2⟩
        unfold stp
        simp only [hoj, hkm]
        obtain ⟨v0, b0, f0, h0⟩ := H.some
        refine ⟨(from_i v0 b0 f0 h0).1, fun q hq => ?_⟩
        refine ih _ _ _ _ inv' hfree' hal' hr' ((keep _).more (fun _ h => List.mem_cons_of_mem _ h)) ?_
        revert H
        unfold Goes
        cases kd i <;> intro H
        · exact swap _ _ _ _ _ _ (fun _ h => h) (fun _ h => h) ((from_i _ _ _ H).2 q hq)
        · exact fun v => swap _ _ _ _ _ _ (fun _ h => h) (le_swap _ _) ((from_i _ _ _ (H v)).2 q hq)
        · intro p hp
          refine swap _ _ _ _ _ _ (fun b hb => ?_) (le_swap _ _) ((from_i _ _ _ (H p fun h => hp (List.mem_cons_of_mem _ h))).2 q fun h => ?_)
          · simp only [List.mem_cons] at hb ⊢
            rcases hb with h | h | h
            · exact .inr (.inl h)
            · exact .inl h
            · exact .inr (.inr h)
          · rcases List.mem_cons.1 h with h | h
            · exact hp (h ▸ List.mem_cons_self)
            · exact hq h

/-- The walk in a given order. -/
def wr (P : Program) (Pn : Pnc) (ops : Array Oper) (w0 : World) (M : Nat → Obj × (Nat → Value)) (fin : Act → Fs → Prop) : List (Nat × Kd) → Act → List Nat → Fs → Prop
  | [], a, _, fs => fin a fs
  | (i, .y) :: rest, a, bs, fs => ∃ o, ops[i]? = some o ∧ ∃ v, Y P ops w0 fs o v a ∧ wr P Pn ops w0 M fin rest (a.put o.dst v) bs fs
  | (i, .z) :: rest, a, bs, fs => ∃ o, ops[i]? = some o ∧ ∃ R, Z P Pn ops w0 fs o R a ∧ ∀ v, wr P Pn ops w0 M fin rest (a.put o.dst v) bs (R v :: fs)
  | (i, .m) :: rest, a, bs, fs => ∃ o, ops[i]? = some o ∧ Mk P ops o (M i) a ∧ ∀ p, p ∉ bs → wr P Pn ops w0 M fin rest (a.put o.dst ((M i).2 p)) (p :: bs) (Blk w0 p (M i).1 :: fs)

theorem wr_nil {fin : Act → Fs → Prop} {a : Act} {bs : List Nat} {fs : Fs} (h : fin a fs) : wr P Pn ops w0 M fin [] a bs fs := h
theorem wr_y {fin : Act → Fs → Prop} {a : Act} {bs : List Nat} {fs : Fs} {i : Nat} {o : Oper} {rest : List (Nat × Kd)} (ho : ops[i]? = some o) (hw : Region.wanted o (yielded ops a.tmps) = true)
    (h : ∃ v, (∀ w, Ext w0 w → Holds fs w → up P w v ((execOp a.eval o).run P w)) ∧ wr P Pn ops w0 M fin rest (a.put o.dst v) bs fs) : wr P Pn ops w0 M fin ((i, .y) :: rest) a bs fs :=
  ⟨o, ho, h.choose, .inl ⟨hw, h.choose_spec.1⟩, h.choose_spec.2⟩
theorem wr_skip {fin : Act → Fs → Prop} {a : Act} {bs : List Nat} {fs : Fs} {i : Nat} {o : Oper} {rest : List (Nat × Kd)} (ho : ops[i]? = some o) (hw : Region.wanted o (yielded ops a.tmps) = false)
    (h : wr P Pn ops w0 M fin rest (a.put o.dst undef) bs fs) : wr P Pn ops w0 M fin ((i, .y) :: rest) a bs fs :=
  ⟨o, ho, undef, .inr ⟨hw, rfl⟩, h⟩
theorem wr_z {fin : Act → Fs → Prop} {a : Act} {bs : List Nat} {fs : Fs} {i : Nat} {o : Oper} {rest : List (Nat × Kd)} (R : Value → World → Prop) (ho : ops[i]? = some o) (hw : Region.wanted o (yielded ops a.tmps) = true) (hk : ∀ v, Keeps (R v))
    (h : ∀ w, Ext w0 w → Holds fs w → upR P Pn w R ((execOp a.eval o).run P w)) (k : ∀ v, wr P Pn ops w0 M fin rest (a.put o.dst v) bs (R v :: fs)) : wr P Pn ops w0 M fin ((i, .z) :: rest) a bs fs :=
  ⟨o, ho, R, ⟨hw, hk, h⟩, k⟩
theorem wr_m {fin : Act → Fs → Prop} {a : Act} {bs : List Nat} {fs : Fs} {i : Nat} {o : Oper} {rest : List (Nat × Kd)} (ho : ops[i]? = some o) (hw : Region.wanted o (yielded ops a.tmps) = true)
    (h : ∀ w, (execOp a.eval o).run P w = .ok (.value ((M i).2 w.heap.size)) (w.alloc (M i).1)) (k : ∀ p, p ∉ bs → wr P Pn ops w0 M fin rest (a.put o.dst ((M i).2 p)) (p :: bs) (Blk w0 p (M i).1 :: fs)) : wr P Pn ops w0 M fin ((i, .m) :: rest) a bs fs :=
  ⟨o, ho, ⟨hw, h⟩, k⟩

/-- All that has not been listed, but i, waits for i or for another such operation ahead of it, or is an allocation, or belongs to the tail. -/
def aloneB (md : Region.Mode) (ops : Array Oper) (kd : Nat → Kd) (n : Nat) (listed : Array Bool) (i : Nat) : Bool :=
  (List.range n).all fun j => decide (kd j = .m) || (j == i) || listed.getD j true ||
    (match ops[j]? with | some o => o.after.any fun e => Region.binds md e && (e.on == i || (decide (e.on < j) && !listed.getD e.on true && !decide (kd e.on = .m))) | none => true)

theorem alone_of {listed : Array Bool} {i : Nat} (h : aloneB md ops kd n listed i = true) : Alone md ops kd n i listed := by
  have key : ∀ (j : Nat), j < n → j ≠ i → kd j ≠ .m → listed.getD j true = false → ∀ listed', HeadInv md ops n listed' → listed'.getD i true = false →
      (∀ oj, ops[j]? = some oj → ¬ ∀ e ∈ oj.after, Region.binds md e = true → listed'.getD e.on false = true) := by
    intro j
    induction j using Nat.strongRecOn with
    | _ j ih =>
      intro hjn hji hkj hun listed' inv hui oj hoj hall
      have h1 := List.all_eq_true.1 h j (List.mem_range.2 hjn)
      simp only [hoj, hun, Bool.or_eq_true, decide_eq_true_eq, beq_iff_eq, Bool.false_eq_true, or_false] at h1
      rcases h1 with (h1 | h1) | h1
      · exact hkj h1
      · exact hji h1
      · obtain ⟨e, he, hb⟩ := Array.any_eq_true'.1 h1
        simp only [Bool.and_eq_true, Bool.or_eq_true, beq_iff_eq, decide_eq_true_eq, Bool.not_eq_true', decide_eq_false_iff_not] at hb
        obtain ⟨hbi, hb⟩ := hb
        have hl := hall e he hbi
        rcases hb with hb | ⟨⟨hlt, hune⟩, hme⟩
        · rw [hb, getD_both hui] at hl; cases hl
        · by_cases hei : e.on = i
          · rw [hei, getD_both hui] at hl; cases hl
          · have hes : e.on < ops.size := by
              have h2 := getD_both hune
              rcases Nat.lt_or_ge e.on ops.size with h | h
              · exact h
              · have : listed'.size ≤ e.on := by rw [inv.size]; exact h
                simp [Array.getElem?_eq_none this] at hl
            exact ih e.on hlt (by omega) hei hme hune listed' inv hui (ops[e.on]'hes) (by simp [hes]) (fun e' he' hb' => inv.closed e.on _ (by simp [hes]) hl e' he' hb')
  intro listed' inv mon hui j hj hji hjn
  obtain ⟨hjun, oj, hoj, hall⟩ := mem_ready.1 hj
  by_cases hkj : kd j = .m
  · exact hkj
  · refine absurd hall (key j hjn hji hkj ?_ listed' inv hui oj hoj)
    cases hc : listed.getD j true with
    | false => rfl
    | true => rw [mon j hc] at hjun; cases hjun

def kdOf (s : List (Nat × Kd)) (i : Nat) : Kd := match s.find? (fun x => x.1 == i) with | some x => x.2 | none => .y

def lexR (md : Region.Mode) (ops : Array Oper) (kd : Nat → Kd) (E : List Nat) (n : Nat) : List (Nat × Kd) → Array Bool → Bool
  | [], listed => Region.seqB md ops (ops.size - n) n listed
  | (i, k) :: rest, listed => decide (i < n) && decide (kd i = k) && (rdy md ops n E listed).contains i && Region.free md ops listed i && (decide (k = .y) || aloneB md ops kd n listed i) && lexR md ops kd E n rest (listed.setIfInBounds i true)

theorem WX_lex {T : Array Bool → Act → Fs → Prop} {fin : Act → Fs → Prop} (hT : ∀ listed a fs fs', Le fs fs' → T listed a fs → T listed a fs') (hsel : Region.noSelect ops = true) (hs : sinkE md ops E n = true) (hc : Region.chainB md ops n = true) (hn : n < ops.size)
    (hdone : ∀ listed a fs, T listed a fs → ∀ j ∈ rdy md ops n E listed, n ≤ j)
    (hb : ∀ listed a fs, Region.seqB md ops (ops.size - n) n listed = true → fin a fs → T listed a fs) :
    ∀ (s : List (Nat × Kd)) (listed : Array Bool) (a : Act) (bs : List Nat) (fs : Fs), HeadInv md ops n listed →
    lexR md ops kd E n s listed = true → wr P Pn ops w0 M fin s a bs fs → WX P Pn E md ops w0 kd M n T s.length listed a bs fs
  | [], listed, a, bs, fs, inv, hB, h => hb listed a fs (by simpa [lexR] using hB) h
  | (i, k) :: rest, listed, a, bs, fs, inv, hB, h => by
    simp only [lexR, Bool.and_eq_true, decide_eq_true_eq, Bool.or_eq_true] at hB
    obtain ⟨⟨⟨⟨⟨hin, hk⟩, hr⟩, hf⟩, hal⟩, hB'⟩ := hB
    have hr' : i ∈ rdy md ops n E listed := by simpa using hr
    have next := fun a bs fs h => WX_lex hT hsel hs hc hn hdone hb rest (listed.setIfInBounds i true) a bs fs (inv.set (mem_rdy.1 hr').1 hin) hB' h
    have hal' : kd i = .y ∨ Alone md ops kd n i listed := hal.imp (fun h => hk.trans h) alone_of
    rw [List.length_cons]
    cases k with
    | y =>
      obtain ⟨o, ho, v, hy, hK⟩ := h
      exact WX_first ho hT (Region.noSelect_spec hsel) hs hc hn hin hdone (fun _ _ => True) v _ listed a bs fs inv (Region.free_spec ho hf) hal' hr' (by rw [hk]; exact hy) (by rw [hk]; exact next _ _ _ hK)
    | z =>
      obtain ⟨o, ho, R, hy, hK⟩ := h
      exact WX_first ho hT (Region.noSelect_spec hsel) hs hc hn hin hdone R undef _ listed a bs fs inv (Region.free_spec ho hf) hal' hr' (by rw [hk]; exact hy) (by rw [hk]; exact fun v => next _ _ _ (hK v))
    | m =>
      obtain ⟨o, ho, hy, hK⟩ := h
      exact WX_first ho hT (Region.noSelect_spec hsel) hs hc hn hin hdone (fun _ _ => True) undef _ listed a bs fs inv (Region.free_spec ho hf) hal' hr' (by rw [hk]; exact hy) (by rw [hk]; exact fun p hp => next _ _ _ (hK p hp))

def allR (P : Program) (md : Region.Mode) (ops : Array Oper) (E : List Nat) (s : List (Nat × Kd)) : Bool :=
  Region.noSelect ops && decide (s.length < ops.size) && sinkE md ops E s.length && Region.chainB md ops s.length && eagerB P md ops (kdOf s) E s.length && lexR md ops (kdOf s) E s.length s (Array.replicate ops.size false)

theorem wp_regionG {id : Nat} {Q : Exit → Act → World → Prop} {a : Act} {w : World} {l : List Oper} (E : List Nat) (s : List (Nat × Kd)) (M : Nat → Obj × (Nat → Value)) (Pn : Pnc) (hQ : ∀ c a' w', a'.defers = a.defers → Ext w w' → Pn c w' → Q (.panic c) a' w')
    (hQp : E ≠ [] → ∀ c a d v w, Q (.panic c) (a.put d v) w → Q (.panic c) a w) (hm : P.follows .mixedOrders = true) (hB : allR P .any l.toArray E s = true)
    (h : wr P Pn l.toArray w M (fun a fs => ∀ w', Ext w w' → Holds fs w' → wpList P l.toArray Q (l.drop s.length) a w') s a [] []) : (Code.region id l.toArray true).wp P Q a w := by
  simp only [allR, Bool.and_eq_true, decide_eq_true_eq] at hB
  obtain ⟨⟨⟨⟨⟨hsel, hn⟩, hs⟩, hc⟩, heb⟩, hlex⟩ := hB
  have hn' : s.length < l.length := by simpa using hn
  have hdl : (l.drop s.length).length = l.toArray.size - s.length := by simp
  have inv0 : HeadInv .any l.toArray s.length (Array.replicate l.toArray.size false) :=
    ⟨by simp, fun j oj _ hl => (by rw [getD_replicate_false] at hl; cases hl), fun t _ ht => getD_in (by simpa using ht) (getD_replicate_false _ _)⟩
  let T : Array Bool → Act → Fs → Prop := fun listed a fs => Region.seqB .any l.toArray (l.toArray.size - s.length) s.length listed = true ∧ ∀ w', Ext w w' → Holds fs w' → wpList P l.toArray Q (l.drop s.length) a w'
  have H := WX_lex (P := P) (Pn := Pn) (E := E) (w0 := w) (M := M) (md := .any) (kd := kdOf s) (T := T) (fun _ _ _ _ l h => ⟨h.1, fun w' e hf => h.2 w' e (hf.le l)⟩) hsel hs hc hn (fun listed a fs hT j hj => seqB_ready hT.1 j (mem_rdy.1 hj).1) (fun listed a fs h1 h2 => ⟨h1, h2⟩) s _ a [] [] inv0 hlex h
  refine wp_region_any hm ?_
  have := WX.sound (Q := Q) (g := l.toArray.size - s.length) (fun listed a' fs w' hT hw hF => by
    have := wpAny_of_seq (md := .any) (Q' := Q) (l.drop s.length) s.length listed a' w' (fun j => by simp [List.getElem?_drop]) (by rw [hdl]; exact hT.1) (hT.2 w' hw hF)
    rwa [hdl] at this) hQ (Region.noSelect_spec hsel) heb hQp _ _ _ _ _ { w with drawn := w.drawn + 1 } rfl inv0 H (Ext.drew (Ext.refl w)) (fun b hb => by cases hb) (fun b hb => by cases hb) (fun b hb => by cases hb)
  rw [show s.length + (l.toArray.size - s.length) = l.toArray.size by omega] at this
  exact this

theorem wp_regionP {id : Nat} {Q : Exit → Act → World → Prop} {a : Act} {w : World} {l : List Oper} (s : List (Nat × Kd)) (M : Nat → Obj × (Nat → Value)) (Pn : Pnc) (hQ : ∀ c a' w', a'.defers = a.defers → Ext w w' → Pn c w' → Q (.panic c) a' w') (hm : P.follows .mixedOrders = true) (hB : allR P .any l.toArray [] s = true)
    (h : wr P Pn l.toArray w M (fun a fs => ∀ w', Ext w w' → Holds fs w' → wpList P l.toArray Q (l.drop s.length) a w') s a [] []) : (Code.region id l.toArray true).wp P Q a w :=
  wp_regionG [] s M Pn hQ (fun h => absurd rfl h) hm hB h

theorem wp_region {id : Nat} {Q : Exit → Act → World → Prop} {a : Act} {w : World} {l : List Oper} (s : List (Nat × Kd)) (M : Nat → Obj × (Nat → Value)) (hm : P.follows .mixedOrders = true) (hB : allR P .any l.toArray [] s = true)
    (h : wr P (fun _ _ => False) l.toArray w M (fun a fs => ∀ w', Ext w w' → Holds fs w' → wpList P l.toArray Q (l.drop s.length) a w') s a [] []) : (Code.region id l.toArray true).wp P Q a w :=
  wp_regionP s M _ (fun _ _ _ _ _ h => h.elim) hm hB h

theorem wp_regionE {id : Nat} {Q : Exit → Act → World → Prop} {a : Act} {w : World} {l : List Oper} (E : List Nat) (s : List (Nat × Kd)) (M : Nat → Obj × (Nat → Value)) (hQp : ∀ c a d v w, Q (.panic c) (a.put d v) w → Q (.panic c) a w) (hm : P.follows .mixedOrders = true) (hB : allR P .any l.toArray E s = true)
    (h : wr P (fun _ _ => False) l.toArray w M (fun a fs => ∀ w', Ext w w' → Holds fs w' → wpList P l.toArray Q (l.drop s.length) a w') s a [] []) : (Code.region id l.toArray true).wp P Q a w :=
  wp_regionG E s M _ (fun _ _ _ _ _ h => h.elim) (fun _ => hQp) hm hB h

theorem bodyPost_put {fn : Func} {R : Ending → World → Prop} (c : List PanicEntry) (a : Act) (d : Option Tmp) (v : Value) (w : World) (h : bodyPost P fn R (.panic c) (a.put d v) w) : bodyPost P fn R (.panic c) a w :=
  ⟨(put_defers a d v).symm.trans h.1, h.2⟩

/-- Nothing follows what cannot return. -/
theorem wr_dead {fin : Act → Fs → Prop} (hfin : ∀ a fs, (∃ f ∈ fs, ∀ w, ¬ f w) → fin a fs) : ∀ (s : List (Nat × Kd)) (a : Act) (bs : List Nat) (fs : Fs), (∃ f ∈ fs, ∀ w, ¬ f w) →
    (∀ x ∈ s, ∃ o, ops[x.1]? = some o ∧ (x.2 = .y ∨ (x.2 = .m ∧ ∀ a, Mk P ops o (M x.1) a))) → wr P Pn ops w0 M fin s a bs fs
  | [], a, _, fs, hd, _ => hfin a fs hd
  | (i, k) :: rest, a, bs, fs, hd, hx => by
    obtain ⟨o, ho, hk⟩ := hx (i, k) List.mem_cons_self
    have more : ∀ f, ∃ g ∈ f :: fs, ∀ w, ¬ g w := fun f => hd.imp fun g ⟨h1, h2⟩ => ⟨List.mem_cons_of_mem _ h1, h2⟩
    have hx' := fun x h => hx x (List.mem_cons_of_mem _ h)
    rcases hk with hk | ⟨hk, hmk⟩ <;> simp only at hk <;> subst hk
    · refine ⟨o, ho, undef, ?_, wr_dead hfin rest _ _ _ hd hx'⟩
      unfold Y
      cases Region.wanted o (yielded ops a.tmps)
      · exact .inr ⟨rfl, rfl⟩
      · obtain ⟨f, hf, hno⟩ := hd
        exact .inl ⟨rfl, fun w _ hh => absurd (hh f hf) (hno w)⟩
    · exact ⟨o, ho, hmk a, fun p _ => wr_dead hfin rest _ _ _ (more _) hx'⟩
end
end Go.Proofs.Ytbeoihjfjkbfhaa.Rr

namespace Go.Proofs.Ytbeoihjfjkbfhaa.Rp
set_option linter.unusedVariables false
set_option linter.unusedSimpArgs false
open Go.RowKit Go.Proofs.Ytbeoihjfjkbfhaa Go.Proofs.Ytbeoihjfjkbfhaa.Rr
open Go.Proofs.Ytbeoihjfjkbfhaa.Rg (lt_of_heap)

def mv (p : List Nat) (o : Oper) : Oper := { o with after := o.after.map (fun e => { e with on := p.idxOf e.on }), guard := o.guard.map (fun g => (p.idxOf g.1, g.2)) }
def perm (p : List Nat) (ops : Array Oper) : Array Oper := (p.map fun i => mv p (ops.getD i default)).toArray
def permB (p : List Nat) (n : Nat) : Bool := decide (p.length = n) && p.all (fun i => decide (i < n)) && decide p.Nodup && (List.range n).all (fun i => p.contains i)

structure Perm (p : List Nat) (n : Nat) : Prop where
  len : p.length = n
  lt : ∀ i ∈ p, i < n
  nodup : p.Nodup
  all : ∀ i, i < n → i ∈ p
theorem permB_spec {p : List Nat} {n : Nat} (h : permB p n = true) : Perm p n := by
  simp only [permB, Bool.and_eq_true, decide_eq_true_eq, List.all_eq_true, List.mem_range, List.contains_iff_mem] at h
  exact ⟨h.1.1.1, h.1.1.2, h.1.2, h.2⟩

section
variable {p : List Nat} {n : Nat}
theorem Perm.idx_lt (h : Perm p n) {i : Nat} (hi : i < n) : p.idxOf i < n := by
  rw [← h.len]; exact List.idxOf_lt_length_of_mem (h.all i hi)
theorem Perm.idx_ge (h : Perm p n) {i : Nat} (hi : n ≤ i) : p.idxOf i = n := by
  rw [← h.len]; exact List.idxOf_eq_length (fun hm => by have := h.lt i hm; omega)
theorem Perm.get_idx (h : Perm p n) {i : Nat} (hi : i < n) : p[p.idxOf i]? = some i := by
  have h1 : p.idxOf i < p.length := by rw [h.len]; exact h.idx_lt hi
  rw [List.getElem?_eq_getElem h1, List.getElem_idxOf h1]
theorem Perm.inj (h : Perm p n) {i j : Nat} (hi : i < n) (hj : j < n) (e : p.idxOf i = p.idxOf j) : i = j := by
  have h1 := h.get_idx hi
  rw [e, h.get_idx hj] at h1
  exact (Option.some.inj h1).symm
theorem Perm.idx_get (h : Perm p n) {j : Nat} (hj : j < n) : ∃ i, i < n ∧ p[j]? = some i ∧ p.idxOf i = j := by
  have hj' : j < p.length := by rw [h.len]; exact hj
  have hlt := h.lt p[j] (List.getElem_mem hj')
  refine ⟨p[j], hlt, List.getElem?_eq_getElem hj', ?_⟩
  have h1 := h.get_idx hlt
  have h2 : p.idxOf p[j] < p.length := by rw [h.len]; exact h.idx_lt hlt
  rw [List.getElem?_eq_getElem h2] at h1
  exact (List.getElem_inj h.nodup).1 (Option.some.inj h1)
end

theorem mv_exec (p : List Nat) (o : Oper) (ρ : Operand → Value) : execOp ρ (mv p o) = execOp ρ o := rfl

section
variable {p : List Nat} {n : Nat} {ops : Array Oper} {md : Region.Mode} {P : Program} {Q : Exit → Act → World → Prop}
theorem get_perm (h : Perm p ops.size) {i : Nat} (hi : i < ops.size) : (perm p ops)[p.idxOf i]? = (ops[i]?).map (mv p) := by
  unfold perm
  rw [List.getElem?_toArray, List.getElem?_map, h.get_idx hi, Option.map_some, Array.getElem?_eq_getElem hi, Option.map_some]
  simp [Array.getD, hi]
theorem size_perm (h : Perm p ops.size) : (perm p ops).size = ops.size := by
  unfold perm; simp [h.len]
theorem yielded_perm (h : Perm p ops.size) (t : Array Value) (j : Nat) : yielded (perm p ops) t (p.idxOf j) = yielded ops t j := by
  unfold yielded
  rcases Nat.lt_or_ge j ops.size with hj | hj
  · rw [get_perm h hj]
    cases ops[j]? <;> rfl
  · rw [h.idx_ge hj, Array.getElem?_eq_none (by rw [size_perm h]; exact Nat.le_refl _), Array.getElem?_eq_none hj]
theorem wanted_perm (h : Perm p ops.size) (t : Array Value) (o : Oper) : Region.wanted (mv p o) (yielded (perm p ops) t) = Region.wanted o (yielded ops t) := by
  unfold Region.wanted mv
  cases o.guard with
  | none => rfl
  | some g => simp only [Option.map_some]; rw [yielded_perm h]

def Rl (p : List Nat) (n : Nat) (l l' : Array Bool) : Prop := l.size = n ∧ l'.size = n ∧ ∀ i, i < n → l'[p.idxOf i]? = l[i]?
theorem Rl.getD {l l' : Array Bool} (h : Perm p n) (r : Rl p n l l') (i : Nat) (b : Bool) : l'.getD (p.idxOf i) b = l.getD i b := by
  obtain ⟨h1, h2, h3⟩ := r
  rw [Array.getD_eq_getD_getElem?, Array.getD_eq_getD_getElem?]
  rcases Nat.lt_or_ge i n with hi | hi
  · rw [h3 i hi]
  · rw [h.idx_ge hi, Array.getElem?_eq_none (by omega), Array.getElem?_eq_none (by omega)]
theorem Rl.set {l l' : Array Bool} (h : Perm p n) (r : Rl p n l l') {i : Nat} (hi : i < n) : Rl p n (l.setIfInBounds i true) (l'.setIfInBounds (p.idxOf i) true) := by
  obtain ⟨h1, h2, h3⟩ := r
  refine ⟨by simpa using h1, by simpa using h2, fun k hk => ?_⟩
  rw [Array.getElem?_setIfInBounds, Array.getElem?_setIfInBounds]
  by_cases e : i = k
  · subst e
    have := h.idx_lt hi
    simp [h1, h2, hi, this]
  · have : p.idxOf i ≠ p.idxOf k := fun e' => e (h.inj hi hk e')
    rw [if_neg this, if_neg e, h3 k hk]

theorem ready_perm (h : Perm p ops.size) {l l' : Array Bool} (r : Rl p ops.size l l') {i : Nat} (hi : i < ops.size) : p.idxOf i ∈ Region.ready md (perm p ops) l' ↔ i ∈ Region.ready md ops l := by
  rw [mem_ready, mem_ready, r.getD h, get_perm h hi]
  refine and_congr_right fun _ => ?_
  cases ho : ops[i]? with
  | none => simp
  | some o =>
    simp only [Option.map_some, Option.some.injEq, exists_eq_left']
    constructor
    · intro h1 e he hb
      have := h1 { e with on := p.idxOf e.on } (by simp only [mv]; exact Array.mem_map.2 ⟨e, he, rfl⟩) hb
      rwa [r.getD h] at this
    · intro h1 e he hb
      simp only [mv] at he
      obtain ⟨e', he', rfl⟩ := Array.mem_map.1 he
      rw [r.getD h]
      exact h1 e' he' hb

theorem ready_lt {l : Array Bool} {i : Nat} (h : i ∈ Region.ready md ops l) : i < ops.size := by
  obtain ⟨_, o, ho, _⟩ := mem_ready.1 h
  exact (Array.getElem?_eq_some_iff.1 ho).1

theorem wpOp_perm (h : Perm p ops.size) {i : Nat} (hi : i < ops.size) {K : Act → World → Prop} {a : Act} {w : World} (hh : wpOp P (perm p ops) Q (p.idxOf i) K a w) : wpOp P ops Q i K a w := by
  unfold wpOp at *
  rw [get_perm h hi] at hh
  cases ho : ops[i]? with
  | none => rw [ho] at hh; exact hh
  | some o =>
    rw [ho] at hh
    simp only [Option.map_some] at hh ⊢
    rw [wanted_perm h] at hh
    exact hh

theorem wpAny_perm (h : Perm p ops.size) : ∀ (f : Nat) (l l' : Array Bool) (a : Act) (w : World), Rl p ops.size l l' → wpAny P md (perm p ops) Q f l' a w → wpAny P md ops Q f l a w
  | 0, l, l', a, w, r, hh => by
    refine ⟨?_, hh.2⟩
    refine List.eq_nil_iff_forall_not_mem.2 fun i hi => ?_
    have := (ready_perm h r (ready_lt hi)).2 hi
    rw [hh.1] at this
    cases this
  | f + 1, l, l', a, w, r, hh => by
    refine ⟨fun h0 => hh.1 (List.eq_nil_iff_forall_not_mem.2 fun j hj => ?_), fun i hi => ?_⟩
    · have hjl := ready_lt hj
      rw [size_perm h] at hjl
      obtain ⟨i, hi, _, rfl⟩ := h.idx_get hjl
      have := (ready_perm h r hi).1 hj
      rw [h0] at this
      cases this
    · have hil := ready_lt hi
      refine wpOp_perm h hil (wpOp_mono (fun a w hk => ?_) (hh.2 _ ((ready_perm h r hil).2 hi)))
      exact wpAny_perm h f _ _ a w (r.set h hil) hk

theorem wpList_perm (h : Perm p ops.size) : ∀ (l : List Oper) (a : Act) (w : World), wpList P ops Q l a w → wpList P (perm p ops) Q (l.map (mv p)) a w
  | [], _, _, hh => hh
  | o :: rest, a, w, hh => by
    rw [List.map_cons]
    unfold wpList at hh ⊢
    rw [wanted_perm h]
    by_cases hw : Region.wanted o (yielded ops a.tmps) = true
    · rw [if_pos hw] at hh ⊢
      exact hh.imp (Oper.wp_mono (fun a w hk => wpList_perm h rest a w hk)) id
    · rw [if_neg hw] at hh ⊢
      exact wpList_perm h rest _ w hh
end

section
variable {P : Program} {ops : Array Oper} {w0 : World} {Pn : Pnc} {p : List Nat} {M : Nat → Obj × (Nat → Value)}
theorem Y_perm (h : Perm p ops.size) {fs : Fs} {o : Oper} {v : Value} {a : Act} (hy : Y P ops w0 fs o v a) : Y P (perm p ops) w0 fs (mv p o) v a := by
  unfold Y at *
  rw [mv_exec, wanted_perm h]
  exact hy
theorem Z_perm (h : Perm p ops.size) {fs : Fs} {o : Oper} {R : Value → World → Prop} {a : Act} (hy : Z P Pn ops w0 fs o R a) : Z P Pn (perm p ops) w0 fs (mv p o) R a := by
  unfold Z at *
  rw [mv_exec, wanted_perm h]
  exact hy
theorem Mk_perm (h : Perm p ops.size) {o : Oper} {m : Obj × (Nat → Value)} {a : Act} (hy : Mk P ops o m a) : Mk P (perm p ops) (mv p o) m a := by
  unfold Mk at *
  rw [mv_exec, wanted_perm h]
  exact hy

def re (p : List Nat) (s : List (Nat × Kd)) : List (Nat × Kd) := s.map fun x => (p.idxOf x.1, x.2)
theorem wr_perm (h : Perm p ops.size) {fin fin' : Act → Fs → Prop} (hf : ∀ a fs, fin a fs → fin' a fs) : ∀ (s : List (Nat × Kd)) (a : Act) (bs : List Nat) (fs : Fs),
    wr P Pn ops w0 M fin s a bs fs → wr P Pn (perm p ops) w0 (fun j => M (p.getD j 0)) fin' (re p s) a bs fs
  | [], a, bs, fs, hh => hf a fs hh
  | (i, k) :: rest, a, bs, fs, hh => by
    have key : ∀ o, ops[i]? = some o → (perm p ops)[p.idxOf i]? = some (mv p o) ∧ p.getD (p.idxOf i) 0 = i := fun o ho => by
      have hi := (Array.getElem?_eq_some_iff.1 ho).1
      exact ⟨by rw [get_perm h hi, ho]; rfl, by rw [List.getD_eq_getElem?_getD, h.get_idx hi]; rfl⟩
    unfold re
    rw [List.map_cons]
    cases k with
    | y =>
      obtain ⟨o, ho, v, hy, hk⟩ := hh
      exact ⟨mv p o, (key o ho).1, v, Y_perm h hy, wr_perm h hf rest _ _ _ hk⟩
    | z =>
      obtain ⟨o, ho, R, hy, hk⟩ := hh
      exact ⟨mv p o, (key o ho).1, R, Z_perm h hy, fun v => wr_perm h hf rest _ _ _ (hk v)⟩
    | m =>
      obtain ⟨o, ho, hy, hk⟩ := hh
      refine ⟨mv p o, (key o ho).1, ?_, fun q hq => ?_⟩
      · simp only [(key o ho).2]; exact Mk_perm h hy
      · simp only [(key o ho).2]; exact wr_perm h hf rest _ _ _ (hk q hq)

def allT (P : Program) (s : List (Nat × Kd)) (tl : List Nat) (E : List Nat) (l : List Oper) : Bool :=
  permB (s.map (·.1) ++ tl) l.length && allR P .any (perm (s.map (·.1) ++ tl) l.toArray) (E.map fun i => (s.map (·.1) ++ tl).idxOf i) (re (s.map (·.1) ++ tl) s)

theorem wpAny_G {Q : Exit → Act → World → Prop} {a : Act} {w : World} {l : List Oper} (E : List Nat) (s : List (Nat × Kd)) (M : Nat → Obj × (Nat → Value)) (Pn : Pnc) (hQ : ∀ c a' w', a'.defers = a.defers → Ext w w' → Pn c w' → Q (.panic c) a' w')
    (hQp : E ≠ [] → ∀ c a d v w, Q (.panic c) (a.put d v) w → Q (.panic c) a w) (hB : allR P .any l.toArray E s = true)
    (h : wr P Pn l.toArray w M (fun a fs => ∀ w', Ext w w' → Holds fs w' → wpList P l.toArray Q (l.drop s.length) a w') s a [] []) : wpAny P .any l.toArray Q l.toArray.size (Array.replicate l.toArray.size false) a { w with drawn := w.drawn + 1 } := by
  simp only [allR, Bool.and_eq_true, decide_eq_true_eq] at hB
  obtain ⟨⟨⟨⟨⟨hsel, hn⟩, hs⟩, hc⟩, heb⟩, hlex⟩ := hB
  have hn' : s.length < l.length := by simpa using hn
  have hdl : (l.drop s.length).length = l.toArray.size - s.length := by simp
  have inv0 : HeadInv .any l.toArray s.length (Array.replicate l.toArray.size false) :=
    ⟨by simp, fun j oj _ hl => (by rw [getD_replicate_false] at hl; cases hl), fun t _ ht => getD_in (by simpa using ht) (getD_replicate_false _ _)⟩
  let T : Array Bool → Act → Fs → Prop := fun listed a fs => Region.seqB .any l.toArray (l.toArray.size - s.length) s.length listed = true ∧ ∀ w', Ext w w' → Holds fs w' → wpList P l.toArray Q (l.drop s.length) a w'
  have H := WX_lex (P := P) (Pn := Pn) (E := E) (w0 := w) (M := M) (md := .any) (kd := kdOf s) (T := T) (fun _ _ _ _ l h => ⟨h.1, fun w' e hf => h.2 w' e (hf.le l)⟩) hsel hs hc hn (fun listed a fs hT j hj => seqB_ready hT.1 j (mem_rdy.1 hj).1) (fun listed a fs h1 h2 => ⟨h1, h2⟩) s _ a [] [] inv0 hlex h
  have := WX.sound (Q := Q) (g := l.toArray.size - s.length) (fun listed a' fs w' hT hw hF => by
    have := wpAny_of_seq (md := .any) (Q' := Q) (l.drop s.length) s.length listed a' w' (fun j => by simp [List.getElem?_drop]) (by rw [hdl]; exact hT.1) (hT.2 w' hw hF)
    rwa [hdl] at this) hQ (Region.noSelect_spec hsel) heb hQp _ _ _ _ _ { w with drawn := w.drawn + 1 } rfl inv0 H (Ext.drew (Ext.refl w)) (fun b hb => by cases hb) (fun b hb => by cases hb) (fun b hb => by cases hb)
  rw [show s.length + (l.toArray.size - s.length) = l.toArray.size by omega] at this
  exact this

/-- As Rr.wp_regionG, the forced operations being those at the places tl. -/
theorem wp_regionG {id : Nat} {Q : Exit → Act → World → Prop} {a : Act} {w : World} {l : List Oper} (E : List Nat) (s : List (Nat × Kd)) (tl : List Nat) (M : Nat → Obj × (Nat → Value)) (Pn : Pnc) (hQ : ∀ c a' w', a'.defers = a.defers → Ext w w' → Pn c w' → Q (.panic c) a' w')
    (hQp : E ≠ [] → ∀ c a d v w, Q (.panic c) (a.put d v) w → Q (.panic c) a w) (hm : P.follows .mixedOrders = true) (hB : allT P s tl E l = true)
    (h : wr P Pn l.toArray w M (fun a fs => ∀ w', Ext w w' → Holds fs w' → wpList P l.toArray Q (tl.filterMap (l[·]?)) a w') s a [] []) : (Code.region id l.toArray true).wp P Q a w := by
  unfold allT at hB
  rw [Bool.and_eq_true] at hB
  obtain ⟨hp, hB⟩ := hB
  generalize hpe : s.map (·.1) ++ tl = p at *
  have hP : Perm p l.toArray.size := by simpa using permB_spec hp
  have htl : ∀ i ∈ tl, i < l.length := fun i hi => by simpa using hP.lt i (by rw [← hpe]; exact List.mem_append_right _ hi)
  have hdrop : (perm p l.toArray).toList.drop (re p s).length = (tl.filterMap (l[·]?)).map (mv p) := by
    unfold perm re
    rw [List.length_map]
    show (p.map _).drop s.length = _
    rw [← List.map_drop, show p.drop s.length = tl by rw [← hpe, List.drop_append_of_le_length (by simp), List.drop_eq_nil_of_le (by simp), List.nil_append]]
    clear hpe hB hp hP h
    induction tl with
    | nil => rfl
    | cons i t ih =>
      have hi := htl i List.mem_cons_self
      rw [List.map_cons, ih (fun j hj => htl j (List.mem_cons_of_mem _ hj)), List.filterMap_cons, List.getElem?_eq_getElem hi]
      simp [Array.getD, hi]
  refine wp_region_any hm ?_
  refine wpAny_perm hP _ (Array.replicate l.toArray.size false) (Array.replicate l.toArray.size false) a _ ⟨by simp, by simp, fun i hi => by rw [Array.getElem?_replicate, Array.getElem?_replicate, if_pos hi, if_pos (hP.idx_lt hi)]⟩ ?_
  have key := wpAny_G (l := (perm p l.toArray).toList) (w := w) (a := a) (Q := Q) (P := P) (E.map fun i => p.idxOf i) (re p s) (fun j => M (p.getD j 0)) Pn hQ (fun hne => hQp (fun h0 => hne (by rw [h0]; rfl))) (by simpa using hB) (by
    rw [hdrop]
    exact wr_perm hP (fun a fs hf w' e hh => wpList_perm hP _ a w' (hf w' e hh)) s a [] [] h)
  have hs := size_perm hP
  simpa [hs] using key
theorem wp_regionT {id : Nat} {Q : Exit → Act → World → Prop} {a : Act} {w : World} {l : List Oper} (s : List (Nat × Kd)) (tl : List Nat) (M : Nat → Obj × (Nat → Value)) (hm : P.follows .mixedOrders = true) (hB : allT P s tl [] l = true)
    (h : wr P (fun _ _ => False) l.toArray w M (fun a fs => ∀ w', Ext w w' → Holds fs w' → wpList P l.toArray Q (tl.filterMap (l[·]?)) a w') s a [] []) : (Code.region id l.toArray true).wp P Q a w :=
  wp_regionG [] s tl M _ (fun _ _ _ _ _ h => h.elim) (fun h => absurd rfl h) hm hB h
theorem wp_regionTE {id : Nat} {Q : Exit → Act → World → Prop} {a : Act} {w : World} {l : List Oper} (E : List Nat) (s : List (Nat × Kd)) (tl : List Nat) (M : Nat → Obj × (Nat → Value)) (hQp : ∀ c a d v w, Q (.panic c) (a.put d v) w → Q (.panic c) a w) (hm : P.follows .mixedOrders = true) (hB : allT P s tl E l = true)
    (h : wr P (fun _ _ => False) l.toArray w M (fun a fs => ∀ w', Ext w w' → Holds fs w' → wpList P l.toArray Q (tl.filterMap (l[·]?)) a w') s a [] []) : (Code.region id l.toArray true).wp P Q a w :=
  wp_regionG E s tl M _ (fun _ _ _ _ _ h => h.elim) (fun _ => hQp) hm hB h
end
end Go.Proofs.Ytbeoihjfjkbfhaa.Rp

namespace Go.Proofs.Ytbeoihjfjkbfhaa.Drn
set_option linter.unusedVariables false
set_option linter.unusedSimpArgs false
open Go
def RGe {α : Type} (n : Nat) : Result α → Prop
  | .ok _ w => n ≤ w.drawn
  | .halt _ w => n ≤ w.drawn
theorem RGe.mono {α : Type} {n m : Nat} (h : n ≤ m) : ∀ {r : Result α}, RGe m r → RGe n r
  | .ok _ _, k => Nat.le_trans h k
  | .halt _ _, k => Nat.le_trans h k
theorem ask_ge {α : Type} (c : Ask α) : ∀ w : World, w.drawn ≤ (w.ask c).2.drawn := by
  induction c with
  | done a => intro w; exact Nat.le_refl _
  | ask what range k ih =>
    intro w
    unfold World.ask
    simp only
    split
    · exact ih _ _
    · exact Nat.le_trans (Nat.le_succ _) (ih _ { w with drawn := w.drawn + 1 })
theorem sys_ge (w : World) (c : Sys) : w.drawn ≤ (w.sys c).2.drawn := by
  unfold World.sys
  have h := ask_ge (Kernel.perform c w.os) w
  split
  · exact Nat.le_refl _
  · rename_i e
    rw [e] at h
    exact h
theorem setCell_d (w : World) (a : Addr) (v : Value) : (w.setCell a v).drawn = w.drawn := by
  simp only [World.setCell]
theorem freeze_d (w : World) (a : Addr) (n : Nat) : (w.freeze a n).drawn = w.drawn := by
  unfold World.freeze
  split <;> rfl
theorem viewStore_d {p : Program} {w w' : World} {at_ : Addr} {u : TypeId} {k : Addr} {v : Value} {b : Bool} {l : List Addr} (h : w.viewStore p at_ u k v b = .ok (w', l)) : w'.drawn = w.drawn := by
  unfold World.viewStore at h
  simp only [bind, Except.bind, pure, Except.pure] at h
  repeat' split at h
  all_goals first | cases h | skip
  all_goals rfl
theorem farStore_d {p : Program} {w w' : World} {a : Addr} {v : Value} {b : Bool} {l : List Addr} (h : w.farStore p a v b = .ok (w', l)) : w'.drawn = w.drawn := by
  unfold World.farStore at h
  split at h
  · split at h
    · rename_i hv
      cases h
      exact viewStore_d hv
    · cases h
  · cases h
theorem run_ge {α : Type} (p : Program) (s : Sem α) : ∀ w : World, RGe w.drawn (s.run p w) := by
  induction s with
  | pure a => intro w; exact Nat.le_refl _
  | load m a k ih =>
    intro w
    unfold Sem.run
    split
    · exact ih _ _
    · split
      · exact ih _ _
      · exact Nat.le_refl _
  | store m a v k ih =>
    intro w
    have key : RGe w.drawn (match w.cell? a with
      | some _ => if w.frozen? a then Result.halt (.unsupported (.unsafePointer "a write to bytes that a string shares")) w else k.run p (w.setCell a v)
      | none => match w.farStore p a v (m == .atomic) with
        | .ok (w, _) => k.run p w
        | .error h => .halt h w) := by
      split
      · split
        · exact Nat.le_refl _
        · exact RGe.mono (Nat.le_of_eq (setCell_d _ _ _).symm) (ih _)
      · split
        · rename_i hv
          exact RGe.mono (Nat.le_of_eq (farStore_d hv).symm) (ih _)
        · exact Nat.le_refl _
    cases v <;> first | exact key | exact Nat.le_refl w.drawn
  | new o k ih => intro w; exact ih _ { w with heap := w.heap.push o }
  | shape r k ih => intro w; exact ih _ _
  | freeze a n k ih => intro w; exact RGe.mono (Nat.le_of_eq (freeze_d _ _ _).symm) (ih _)
  | frozen a k ih => intro w; exact ih _ _
  | getObj r k ih =>
    intro w
    unfold Sem.run
    split
    · exact Nat.le_refl _
    · exact ih _ _
    · exact Nat.le_refl _
  | setObj r o k ih =>
    intro w
    unfold Sem.run
    split
    · exact Nat.le_refl _
    · exact ih { w with heap := w.heap.setIfInBounds r o }
    · exact Nat.le_refl _
  | choose q k ih =>
    intro w
    unfold Sem.run
    split
    · exact ih _ _
    · exact RGe.mono (Nat.le_succ _) (ih _ { w with drawn := w.drawn + 1 })
  | sys c k ih => intro w; exact RGe.mono (sys_ge _ _) (ih _ _)
  | program k ih => intro w; exact ih _ _
  | mark m k ih => intro w; exact ih _
  | halt h => intro w; exact Nat.le_refl _
theorem runT_ge {α : Type} (p : Program) (s : Sem α) : ∀ (w : World) (es : Array Event), RGe w.drawn (s.runT p w es).1 := by
  induction s with
  | pure a => intro w es; exact Nat.le_refl _
  | load m a k ih =>
    intro w es
    unfold Sem.runT
    split
    · exact ih _ _ _
    · split
      · exact ih _ _ _
      · exact Nat.le_refl _
  | store m a v k ih =>
    intro w es
    have key : RGe w.drawn (match w.cell? a with
      | some _ =>
        if w.frozen? a then ((Result.halt (.unsupported (.unsafePointer "a write to bytes that a string shares")) w, es) : Result _ × Array Event)
        else k.runT p (w.setCell a v) (es.push ⟨.cell a, true, m == Mode.atomic⟩)
      | none => match w.farStore p a v (m == Mode.atomic) with
        | .ok (w, touched) => k.runT p w (es ++ touched.toArray.map (fun x => (⟨.cell x, true, m == Mode.atomic⟩ : Event)))
        | .error h => (.halt h w, es)).1 := by
      split
      · split
        · exact Nat.le_refl _
        · exact RGe.mono (Nat.le_of_eq (setCell_d _ _ _).symm) (ih _ _)
      · split
        · rename_i hv
          exact RGe.mono (Nat.le_of_eq (farStore_d hv).symm) (ih _ _)
        · exact Nat.le_refl _
    cases v <;> first | exact key | exact Nat.le_refl w.drawn
  | new o k ih => intro w es; exact ih _ { w with heap := w.heap.push o } _
  | shape r k ih => intro w es; exact ih _ _ _
  | freeze a n k ih => intro w es; exact RGe.mono (Nat.le_of_eq (freeze_d _ _ _).symm) (ih _ _)
  | frozen a k ih => intro w es; exact ih _ _ _
  | getObj r k ih =>
    intro w es
    unfold Sem.runT
    split
    · exact Nat.le_refl _
    · exact ih _ _ _
    · exact Nat.le_refl _
  | setObj r o k ih =>
    intro w es
    unfold Sem.runT
    split
    · exact Nat.le_refl _
    · exact ih { w with heap := w.heap.setIfInBounds r o } _
    · exact Nat.le_refl _
  | choose q k ih =>
    intro w es
    unfold Sem.runT
    split
    · exact ih _ _ _
    · exact RGe.mono (Nat.le_succ _) (ih _ { w with drawn := w.drawn + 1 } _)
  | sys c k ih => intro w es; exact RGe.mono (sys_ge _ _) (ih _ _ _)
  | program k ih => intro w es; exact ih _ _ _
  | mark m k ih => intro w es; exact ih _ _
  | halt h => intro w es; exact Nat.le_refl _

/-- A step's world has drawn n or more. -/
def GGe (n : Nat) : GStep → Prop
  | .go _ w _ | .comm _ _ _ _ w _ | .spawn _ _ w _ | .count _ w _ | .timer _ _ w _ | .alone _ _ w _ | .newcoro _ _ _ w _ | .coroswitch _ _ _ w _ | .collect _ w _ | .watch _ w _ => n ≤ w.drawn
  | .ended .. => True
theorem GGe.after {n : Nat} {es : Array Event} {s : GStep} (h : GGe n s) : GGe n (GStep.after es s) := by cases s <;> exact h
def SGe (n : Nat) : Stepped → Prop
  | .next m => n ≤ m.world.drawn
  | .ended .. => True
theorem runT_le {α : Type} {p : Program} {s : Sem α} {w w' : World} {es es' : Array Event} {r : α} (h : s.runT p w es = (.ok r w', es')) : w.drawn ≤ w'.drawn := by
  have := runT_ge p s w es; rw [h] at this; exact this
theorem runT_leH {α : Type} {p : Program} {s : Sem α} {w w' : World} {es es' : Array Event} {r : Halt} (h : s.runT p w es = (.halt r w', es')) : w.drawn ≤ w'.drawn := by
  have := runT_ge p s w es; rw [h] at this; exact this
theorem run_le {α : Type} {p : Program} {s : Sem α} {w w' : World} {r : α} (h : s.run p w = .ok r w') : w.drawn ≤ w'.drawn := by
  have := run_ge p s w; rw [h] at this; exact this
theorem run_leH {α : Type} {p : Program} {s : Sem α} {w w' : World} {r : Halt} (h : s.run p w = .halt r w') : w.drawn ≤ w'.drawn := by
  have := run_ge p s w; rw [h] at this; exact this

theorem fst_le {α : Type} {p : Program} {s : Sem α} {w w' : World} {es : Array Event} {r : α} (h : (s.runT p w es).1 = .ok r w') : w.drawn ≤ w'.drawn := by
  have := runT_ge p s w es; rw [h] at this; exact this
theorem fst_leH {α : Type} {p : Program} {s : Sem α} {w w' : World} {es : Array Event} {r : Halt} (h : (s.runT p w es).1 = .halt r w') : w.drawn ≤ w'.drawn := by
  have := runT_ge p s w es; rw [h] at this; exact this

theorem endWith_ge (w : World) (fd : Nat) (t : ByteArray) (o : Outcome) (n : Nat) : GGe n (endWith w fd t o) := by
  unfold endWith
  simp only
  repeat' split
  all_goals trivial
theorem dieOf_ge (fr : Frame) (l : List ByteArray) (m : String) (b : Bool) (w : World) : GGe w.drawn (dieOf fr l m b w) := Nat.le_refl _
theorem endThrow_ge (fr : Frame) (m : String) (w : World) : GGe w.drawn (endThrow fr m w) := Nat.le_refl _
theorem endPrinting_ge (p : Program) (fr : Frame) (v : Value) (w : World) : GGe w.drawn (endPrinting p fr v w) := by
  unfold endPrinting
  simp only
  split
  · exact endThrow_ge _ _ _
  · trivial
theorem GGe.mono {n m : Nat} (h : n ≤ m) {s : GStep} (k : GGe m s) : GGe n s := by
  cases s <;> first | trivial | exact Nat.le_trans h k
theorem endFatal_ge (p : Program) (fr : Frame) (cs : List Frame) (d : Option Dying) (m : String) (w : World) : GGe w.drawn (endFatal p fr cs d m w) := by
  unfold endFatal
  simp only
  split
  · rename_i h
    exact GGe.mono (run_le h) (dieOf_ge _ _ _ _ _)
  · trivial
  · trivial
theorem writeOn_ge (p : Program) (fr : Frame) (d : Dying) (f : Fatal) (w : World) : GGe w.drawn (writeOn p fr d f w) := by
  unfold writeOn
  simp only
  split
  · trivial
  · split
    · rename_i h
      exact runT_le h
    · rename_i h
      exact runT_leH h
    · trivial
    · trivial
theorem die_ge (p : Program) (fr : Frame) (d : Dying) (w : World) : GGe w.drawn (die p fr d w) := by
  unfold die
  split
  · exact writeOn_ge _ _ _ _ _
  · split
    · split
      · exact Nat.le_refl _
      · exact endWith_ge _ _ _ _ _
    · simp only
      split
      · exact Nat.le_refl _
      · split
        · rename_i h
          exact run_le h
        · trivial
      · refine GGe.after ?_
        split
        all_goals first | trivial | skip
        · rename_i e
          exact fst_le e
        · rename_i e
          exact fst_le e
        · rename_i e
          exact GGe.mono (fst_leH e) (endPrinting_ge _ _ _ _)
      · trivial
theorem doReturn_ge (p : Program) (main : Bool) (fr : Frame) (cs : List Frame) (d : Option Dying) (v : Value) (w : World) : GGe w.drawn (doReturn p main fr cs d v w) := by
  unfold doReturn
  simp only
  repeat' split
  all_goals first | exact Nat.le_refl _ | trivial
theorem ite_ge {n : Nat} {c : Prop} [Decidable c] {a b : GStep} (h : GGe n a) (k : GGe n b) : GGe n (if c then a else b) := by
  split
  · exact h
  · exact k
theorem callDeferred_ge (p : Program) (fr : Frame) (cs : List Frame) (dy : Option Dying) (d : Deferred) (w : World) : GGe w.drawn (callDeferred p fr cs dy d w) := by
  unfold callDeferred
  refine ite_ge trivial ?_
  · simp only
    refine GGe.after ?_
    split
    all_goals first
      | trivial
      | (rename_i e; exact fst_le e)
      | (rename_i e; exact fst_leH e)
      | (rename_i e; exact GGe.mono (fst_leH e) (endFatal_ge _ _ _ _ _ _))
      | (rename_i e; exact GGe.mono (fst_leH e) (endThrow_ge _ _ _))
      | (rename_i e; split <;> exact fst_le e)
theorem unwind_ge (p : Program) (main : Bool) (fr : Frame) (cs : List Frame) (dy : Option Dying) (w : World) : GGe w.drawn (unwind p main fr cs dy w) := by
  unfold unwind
  split
  · simp only
    refine GGe.after ?_
    split
    · rename_i e
      exact fst_le e
    · trivial
  · exact callDeferred_ge _ _ _ _ _ _
  · split
    · trivial
    · split
      · trivial
      · split
        · exact Nat.le_refl _
        · split
          · split
            · exact Nat.le_refl _
            · split
              · rename_i e
                exact run_le e
              · trivial
              · trivial
          · split
            · exact endPrinting_ge _ _ _ _
            · trivial
    · split
      · exact doReturn_ge _ _ _ _ _ _ _
      · simp only
        refine GGe.after ?_
        split
        · rename_i e
          exact GGe.mono (fst_le e) (doReturn_ge _ _ _ _ _ _ _)
        · trivial
        · trivial
theorem early_ge (p : Program) (fr : Frame) (cs : List Frame) (dy : Option Dying) (g : Nat) (w : World) : GGe w.drawn (early p fr cs dy g w) := by
  have key : ∀ w2 : World, GGe w2.drawn (match w2.heap[g]? with
    | some (.pending c elem) => GStep.go { frame := fr, callers := cs, status := .running, dying := dy } { w2 with heap := w2.heap.setIfInBounds g (.cells c elem) }
    | _ => .ended (.stuck "early: the variable does not wait" (fr.pos p)) w2) := fun w2 => by
    split
    · exact Nat.le_refl _
    · trivial
  unfold early
  simp only
  split
  · exact key w
  · split
    · trivial
    · split
      · exact key w
      · split
        · exact key w
        · split
          · trivial
          · exact Nat.le_refl _
          · trivial
          · exact key w
          · split
            · exact Nat.le_refl _
            · split
              · exact key w
              · split
                · rename_i e
                  exact GGe.mono (run_le e) (key _)
                · rename_i e
                  exact run_le e
                · trivial
theorem rt_ge {α : Type} {p : Program} {s : Sem α} {w : World} {es : Array Event} {r : Result α} {e : Array Event} (h : s.runT p w es = (r, e)) : RGe w.drawn r := by
  have := runT_ge p s w es; rw [h] at this; exact this
theorem doReturn_le {n : Nat} {p : Program} {main : Bool} {fr : Frame} {cs : List Frame} {d : Option Dying} {v : Value} {w : World} (h : n ≤ w.drawn) : GGe n (doReturn p main fr cs d v w) := GGe.mono h (doReturn_ge _ _ _ _ _ _ _)
theorem apply_ge (p : Program) (listen : Bool) (fr : Frame) (cs : List Frame) (dy : Option Dying) (s : Sem Next) (w : World) : GGe w.drawn (stepG.apply p listen fr cs dy s w) := by
  have hr : RGe w.drawn (if listen = true then s.runT p w #[] else (s.run p w, #[])).1 := by
    split
    · exact runT_ge _ _ _ _
    · exact run_ge _ _ _
  unfold stepG.apply
  simp only
  refine GGe.after ?_
  generalize (if listen = true then s.runT p w #[] else (s.run p w, #[])).1 = r at hr ⊢
  cases r with
  | ok x w2 =>
    have h2 : w.drawn ≤ w2.drawn := hr
    cases x <;> (try simp only)
    all_goals first
      | exact h2
      | exact ite_ge (GGe.mono h2 (endThrow_ge _ _ _)) h2
      | (split <;> exact h2)
      | (split <;> split <;> exact h2)
  | halt x w2 =>
    have h2 : w.drawn ≤ w2.drawn := hr
    cases x <;> (try simp only)
    all_goals first
      | exact h2
      | trivial
      | exact GGe.mono h2 (endFatal_ge _ _ _ _ _ _)
      | exact GGe.mono h2 (endThrow_ge _ _ _)
      | skip
    rename_i u
    clear hr
    cases u <;> first | exact GGe.mono h2 (early_ge _ _ _ _ _ _) | trivial
theorem oper_ge (p : Program) (listen : Bool) (fr : Frame) (cs : List Frame) (dy : Option Dying) (w : World) : GGe w.drawn (stepG.oper p listen fr cs dy w) := by
  unfold stepG.oper
  split
  · trivial
  · split <;> exact apply_ge _ _ _ _ _ _ _
theorem elim_ge {α : Type} {n : Nat} {a : GStep} {f : α → GStep} (o : Option α) (h : GGe n a) (k : ∀ x, GGe n (f x)) : GGe n (o.elim a f) := by
  cases o
  · exact h
  · exact k _
theorem exec_ge (p : Program) (main listen : Bool) (fr : Frame) (cs : List Frame) (dy : Option Dying) (w : World) : GGe w.drawn (stepG.exec p main listen fr cs dy w) := by
  unfold stepG.exec
  have leave : ∀ (b : Prop) [Decidable b] (j : Option Code), GGe w.drawn (match fr.roundOf with
      | none => if b then GStep.go { frame := { fr with mode := .returning }, callers := cs, status := .running, dying := dy } w else .ended (.stuck "exit, goto: no such block or label" (fr.pos p)) w
      | some l =>
        GStep.after (seen p fr.fn ((Instr.endRound l j).runT p w #[]).2) (match ((Instr.endRound l j).runT p w #[]).1 with
        | .ok v w => doReturn p main fr cs dy v w
        | .halt _ w => .ended (.stuck "range over a function: no such loop" (fr.pos p)) w)) := by
    intro b _ j
    split
    · exact ite_ge (Nat.le_refl _) trivial
    · refine GGe.after ?_
      split
      · rename_i e
        exact doReturn_le (fst_le e)
      · trivial
  simp only
  split
  all_goals first
    | exact Nat.le_refl _
    | trivial
    | exact apply_ge _ _ _ _ _ _ _
    | exact leave _ _
    | exact elim_ge _ (leave _ _) (fun _ => Nat.le_refl _)
    | exact elim_ge _ trivial (fun _ => apply_ge _ _ _ _ _ _ _)
    | exact ite_ge (oper_ge _ _ _ _ _ _) (Nat.le_refl _)
    | (split <;> first | exact Nat.le_refl _ | trivial)
    | (refine GGe.after ?_
       split
       · rename_i e
         exact GGe.mono (fst_le e) (apply_ge _ _ _ _ _ _ _)
       · trivial)
    | (refine GGe.after ?_
       split
       · rename_i e
         exact fst_le e
       · rename_i e
         exact fst_leH e
       · trivial)
    | (refine ite_ge (Nat.le_refl _) ?_
       split
       · rename_i e
         exact run_le e
       · trivial)
theorem stepG_ge (p : Program) (main : Bool) (g : Goroutine) (w : World) (listen : Bool) : GGe w.drawn (stepG p main g w listen) := by
  unfold stepG
  simp only
  split
  · exact die_ge _ _ _ _
  · exact exec_ge _ _ _ _ _ _ _
  · exact unwind_ge _ _ _ _ _ _

theorem waitingAt_d {rest : Rest} {cases : Array CommCase} {w w' : World} (h : waitingAt rest cases w = some w') : w'.drawn = w.drawn := by
  unfold waitingAt at h
  split at h
  · split at h
    · injection h with h
      subst h
      rfl
    · cases h
  · injection h with h
    subst h
    rfl
theorem sge_ite {n : Nat} {c : Prop} [Decidable c] {a b : Stepped × Array MemOp} (h : SGe n a.1) (k : SGe n b.1) : SGe n (if c then a else b).1 := by
  split
  · exact h
  · exact k
theorem communicate_ge (p : Program) (rest : Rest) (gs : Array Goroutine) (i : Nat) (g : Goroutine) (cases : Array CommCase) (blocking : Bool) (shape : CommShape) (w : World) :
    SGe w.drawn (communicate p rest gs i g cases blocking shape w).1 := by
  unfold communicate
  simp only
  refine sge_ite trivial ?_
  refine sge_ite ?_ ?_
  · refine sge_ite ?_ (Nat.le_refl _)
    split
    · rename_i e
      exact Nat.le_of_eq (waitingAt_d e).symm
    · trivial
  · split
    · trivial
    · rename_i e
      have h1 := run_le e
      clear e
      split
      · split
        · rename_i e
          exact Nat.le_trans h1 (run_leH e)
        · trivial
      · exact h1
      · exact h1
      · split
        · exact h1
        · split
          · rename_i e
            have h2 := run_le e
            exact Nat.le_trans h1 h2
          · trivial
      · exact h1
      · exact h1
      · trivial
theorem look_ge (p : Program) (gs : Array Goroutine) (rest : Rest) (w : World) : SGe w.drawn (look p gs rest w) := by
  unfold look
  simp only
  split
  · split
    · trivial
    · split
      · trivial
      · split
        · rename_i e
          have h2 := run_le e
          exact h2
        · trivial
        · trivial
  · trivial
theorem serve_ge (p : Program) (m : Machine) (k : Nat) : SGe m.world.drawn (serve p m k) := by
  unfold serve
  simp only
  split
  · trivial
  · exact Nat.le_refl _
  · split
    · trivial
    · exact Nat.le_refl _
theorem drain_d (w : World) (c : Nat) : (drain w c).2.drawn = w.drawn := by
  unfold drain
  split <;> rfl
theorem retime_d (m : Machine) (k : Nat) (t : Timer) (a b : Nat) : (retime m k t a b).2.world.drawn = m.world.drawn := by
  unfold retime
  simp only
  split
  · exact drain_d _ _
  · rfl
theorem named_d {m : Machine} {var : Addr} {f : Nat → Timer → Value × Machine} {v : Value} {m' : Machine} (n : Nat) (hf : ∀ k t, (f k t).2.world.drawn = n) (h : timerOp.named m var f = .ok (v, m')) : m'.world.drawn = n := by
  unfold timerOp.named at h
  split at h
  · injection h with h
    rw [← show (f _ _).2 = m' from congrArg Prod.snd h]
    exact hf _ _
  · cases h
theorem timerOp_d {m m' : Machine} {op : TimerOp} {v : Value} (h : timerOp m op = .ok (v, m')) : m'.world.drawn = m.world.drawn := by
  unfold timerOp at h
  split at h
  · split at h
    · injection h with h
      injection h with h1 h2
      subst h2
      rfl
    · split at h
      · split at h
        · cases h
        · injection h with h
          injection h with h1 h2
          subst h2
          rfl
      · cases h
  · exact named_d _ (fun _ _ => retime_d _ _ _ _ _) h
  · split at h
    · rename_i e
      refine named_d _ (fun _ _ => (retime_d _ _ _ _ _).trans ?_) h
      unfold timerOp.opened at e
      split at e
      · split at e
        · injection e with e
          subst e
          rfl
        · cases e
      · injection e with e
        subst e
        rfl
    · cases h
  · injection h with h
    injection h with h1 h2
    subst h2
    rfl
theorem SGe.mono {n m : Nat} (h : n ≤ m) {s : Stepped} (k : SGe m s) : SGe n s := by
  cases s
  · exact Nat.le_trans h k
  · trivial
theorem thrown_ge (fr : Frame) (msg : String) (w : World) (n : Nat) (hn : n ≤ w.drawn) (f : Goroutine → Array Goroutine) (rest : Rest) (o : Stepped) (ho : SGe n o) : SGe n (match endThrow fr msg w with
    | .go g w _ => .next { world := w, gs := f g, rest := rest }
    | _ => o) := hn
theorem runT_m_ge (p : Program) (m : Machine) (i : Nat) (listen : Bool) : SGe m.world.drawn (Go.runT p m i listen).1 := by
  unfold Go.runT
  simp only
  have h := stepG_ge p (i == 0) (m.gs.swapAt! i { (default : Goroutine) with status := .finished }).1 m.world listen
  split
  · trivial
  · rename_i e
    rw [e] at h
    exact SGe.mono h (communicate_ge _ _ _ _ _ _ _ _ _)
  · rename_i e
    rw [e] at h
    exact h
  · rename_i e
    rw [e] at h
    exact h
  · rename_i e
    rw [e] at h
    split
    · trivial
    · exact h
  · rename_i e
    rw [e] at h
    exact h
  · rename_i e
    rw [e] at h
    exact SGe.mono h (look_ge _ _ _ _)
  · rename_i e
    rw [e] at h
    exact h
  · rename_i e
    rw [e] at h
    exact h
  · rename_i e
    rw [e] at h
    split
    · exact h
    · exact h
    · trivial
  · rename_i e
    rw [e] at h
    split
    · rename_i e2
      exact Nat.le_trans h (Nat.le_of_eq (timerOp_d e2).symm)
    · exact h
    · trivial
    · trivial
/-- A move's world. -/
def MGe (n : Nat) : Move → Prop
  | .goroutine m _ => n ≤ m.world.drawn
  | .machine s _ => SGe n s
theorem pick_ge (p : Program) (rs : List Nat) (m : Machine) (n : Nat) (hn : n ≤ m.world.drawn) : MGe n (match (choose (.sched rs.length)).run p m.world with
      | .halt _ w => .machine (.ended (.stuck "sched" "") w)
      | .ok k world =>
        if rs.length ≤ 1 then .goroutine { m with world } (rs.getD k 0) else
        match (choose (.extern "sched.slice" 65536)).run p world with
        | .halt _ w => .machine (.ended (.stuck "sched.slice" "") w)
        | .ok n world => .goroutine { m with world, rest := { m.rest with slice := if n = 0 then none else some (rs.getD k 0, n) } } (rs.getD k 0)) := by
  split
  · trivial
  · rename_i e
    have h1 := Nat.le_trans hn (run_le e)
    split
    · exact h1
    · split
      · trivial
      · rename_i e2
        exact Nat.le_trans h1 (run_le e2)
theorem askOn_ge (p : Program) (m : Machine) : MGe m.world.drawn (askOn p m) := by
  unfold askOn
  simp only
  split
  · trivial
  · rename_i e
    have h1 := run_le e
    split
    · exact SGe.mono h1 (serve_ge p _ _)
    · split
      · split
        · exact h1
        · split
          · exact h1
          · split <;> trivial
      · split
        · exact pick_ge p _ { m with world := _ } _ h1
        · split
          · trivial
          · rename_i e2
            exact pick_ge p _ { m with world := _ } _ (Nat.le_trans h1 (run_le e2))
          · rename_i e2
            have h2 := run_le e2
            exact Nat.le_trans h1 h2
          · rename_i e2
            have h2 := run_le e2
            exact pick_ge p _ (Machine.advanceTo { m with world := _ } _) _ (Nat.le_trans h1 h2)
theorem MGe.mono {n m : Nat} (h : n ≤ m) {s : Move} (k : MGe m s) : MGe n s := by
  cases s
  · exact Nat.le_trans h k
  · exact SGe.mono h k
theorem ask_m_ge (p : Program) (m : Machine) : MGe m.world.drawn (ask p m) := by
  unfold ask
  split
  · split
    · trivial
    · rename_i W e
      have h1 := run_le e
      have h2 := look_ge p m.gs m.rest W
      split
      · rename_i e2
        rw [e2] at h2
        exact MGe.mono (Nat.le_trans h1 h2) (askOn_ge _ _)
      · exact SGe.mono h1 h2
    · rename_i e
      have h1 := run_le e
      exact MGe.mono h1 (askOn_ge p { m with world := _ })
  · exact askOn_ge _ _
theorem move_ge (p : Program) (m : Machine) : MGe m.world.drawn (move p m) := by
  unfold move
  split
  · split
    · exact Nat.le_refl _
    · trivial
  · split
    · split
      · exact Nat.le_refl _
      · exact ask_m_ge p { m with rest := _ }
    · exact ask_m_ge _ _
theorem step_ge (p : Program) (m : Machine) : SGe m.world.drawn (step p m) := by
  unfold step stepT
  have h := move_ge p m
  split
  · rename_i e
    rw [e] at h
    exact SGe.mono h (runT_m_ge _ _ _ _)
  · rename_i e
    rw [e] at h
    exact h
theorem steps_ge {p : Program} {m m' : Machine} (h : Steps p m m') : m.world.drawn ≤ m'.world.drawn := by
  obtain ⟨n, hn⟩ := h
  induction n generalizing m with
  | zero =>
    injection hn with hn
    subst hn
    exact Nat.le_refl _
  | succ n ih =>
    have h1 := step_ge p m
    unfold runN at hn
    split at hn
    · rename_i e
      rw [e] at h1
      exact Nat.le_trans h1 (ih hn)
    · rename_i e
      exact absurd hn (by intro h; exact e _ h)
end Go.Proofs.Ytbeoihjfjkbfhaa.Drn
namespace Go.Proofs.Ytbeoihjfjkbfhaa
open Go
/-- A call that returns has drawn no less. -/
theorem calls_drawn {P : Program} {f : FuncId} {args : Array Value} {w : World} {v : Value} {R : Ending → World → Prop} (h : Calls P f args w R) (hR : ∀ e w', R e w' → e = .returned v) :
    Calls P f args w fun e w' => R e w' ∧ w.drawn ≤ w'.drawn := by
  intro cs
  obtain ⟨e, w', fr, hr, hc, h1, h2⟩ := h cs
  obtain rfl := hR e w' hr
  exact ⟨_, w', fr, ⟨hr, Drn.steps_ge (show Steps P _ _ from hc)⟩, hc, h1, h2⟩
end Go.Proofs.Ytbeoihjfjkbfhaa

namespace Go.Proofs.Ytbeoihjfjkbfhaa
set_option linter.unusedVariables false
set_option linter.unusedSimpArgs false
open Go.RowKit

/-- A rotation to the right. -/
def rotr (x : Int) (n : Nat) : Int := bits BinOp.or IntKind.u32 (x * 2 ^ (32 - n) % 4294967296) (x / 2 ^ n)
def xor32 (a b : Int) : Int := bits BinOp.xor IntKind.u32 a b
def and32 (a b : Int) : Int := bits BinOp.and IntKind.u32 a b
def mix3 (x : Int) (a b c : Nat) : Int := xor32 (xor32 (rotr x a) (rotr x b)) (rotr x c)
def wordE (a b c d : Int) : Int :=
  bits BinOp.or IntKind.u32 (bits BinOp.or IntKind.u32 (bits BinOp.or IntKind.u32 (a * 16777216) (b * 65536)) (c * 256)) d
def byteS (x : Int) : List Int := [x / 16777216 % 256, x / 65536 % 256, x / 256 % 256, x % 256]

theorem rotl_at (x k : Int) (n : Nat) (h : (k, n) ∈ [(-2, 2), (-6, 6), (-7, 7), (-11, 11), (-13, 13), (-17, 17), (-18, 18), (-19, 19), (-22, 22), (-25, 25)]) (w : World) :
    Calls Try.prog 79 #[.int .u32 x, .int .i64 k] w fun e w' => e = .returned (.int .u32 (rotr x n)) ∧ w' = w := by
  simp only [List.mem_cons, Prod.mk.injEq, List.not_mem_nil, or_false] at h
  rcases h with ⟨rfl, rfl⟩ | ⟨rfl, rfl⟩ | ⟨rfl, rfl⟩ | ⟨rfl, rfl⟩ | ⟨rfl, rfl⟩ | ⟨rfl, rfl⟩ | ⟨rfl, rfl⟩ | ⟨rfl, rfl⟩ | ⟨rfl, rfl⟩ | ⟨rfl, rfl⟩
  · have hb : bits BinOp.and IntKind.u64 (IntKind.u64.wrap (-2)) 31 = 30 := by decide
    go_enter Try.func79, Try.ntmps79
    go_wp2
    go_ret
    exact ⟨rfl, rfl⟩
  · have hb : bits BinOp.and IntKind.u64 (IntKind.u64.wrap (-6)) 31 = 26 := by decide
    go_enter Try.func79, Try.ntmps79
    go_wp2
    go_ret
    exact ⟨rfl, rfl⟩
  · have hb : bits BinOp.and IntKind.u64 (IntKind.u64.wrap (-7)) 31 = 25 := by decide
    go_enter Try.func79, Try.ntmps79
    go_wp2
    go_ret
    exact ⟨rfl, rfl⟩
  · have hb : bits BinOp.and IntKind.u64 (IntKind.u64.wrap (-11)) 31 = 21 := by decide
    go_enter Try.func79, Try.ntmps79
    go_wp2
    go_ret
    exact ⟨rfl, rfl⟩
  · have hb : bits BinOp.and IntKind.u64 (IntKind.u64.wrap (-13)) 31 = 19 := by decide
    go_enter Try.func79, Try.ntmps79
    go_wp2
    go_ret
    exact ⟨rfl, rfl⟩
  · have hb : bits BinOp.and IntKind.u64 (IntKind.u64.wrap (-17)) 31 = 15 := by decide
    go_enter Try.func79, Try.ntmps79
    go_wp2
    go_ret
    exact ⟨rfl, rfl⟩
  · have hb : bits BinOp.and IntKind.u64 (IntKind.u64.wrap (-18)) 31 = 14 := by decide
    go_enter Try.func79, Try.ntmps79
    go_wp2
    go_ret
    exact ⟨rfl, rfl⟩
  · have hb : bits BinOp.and IntKind.u64 (IntKind.u64.wrap (-19)) 31 = 13 := by decide
    go_enter Try.func79, Try.ntmps79
    go_wp2
    go_ret
    exact ⟨rfl, rfl⟩
  · have hb : bits BinOp.and IntKind.u64 (IntKind.u64.wrap (-22)) 31 = 10 := by decide
    go_enter Try.func79, Try.ntmps79
    go_wp2
    go_ret
    exact ⟨rfl, rfl⟩
  · have hb : bits BinOp.and IntKind.u64 (IntKind.u64.wrap (-25)) 31 = 7 := by decide
    go_enter Try.func79, Try.ntmps79
    go_wp2
    go_ret
    exact ⟨rfl, rfl⟩
theorem or32_comm (a b : Int) : bits BinOp.or IntKind.u32 a b = bits BinOp.or IntKind.u32 b a := by
  simp [bits, BitVec.or_comm]
theorem rot_at (x : Int) (n : Nat) (h : n ∈ [2, 6, 7, 11, 13, 17, 18, 19, 22, 25]) (w : World) :
    Calls Try.prog 81 #[.int .u32 x, .int .i64 n] w fun e w' => e = .returned (.int .u32 (rotr x n)) ∧ ∃ k, w' = w.drewN k := by
  have hc := or32_comm
  simp only [List.mem_cons, List.not_mem_nil, or_false] at h
  rcases h with rfl | rfl | rfl | rfl | rfl | rfl | rfl | rfl | rfl | rfl
  all_goals
    unfold rotr
    rw [hc]
    clear hc
    go_enter Try.func81, Try.ntmps81
    go_wp2
    go_quiet (fail)
    go_wp2
    go_ret
    exact ⟨rfl, _, rfl⟩
theorem mixed_e (x : Int) (w : World) : Calls Try.prog 69 #[.int .u32 x, .int .i64 6, .int .i64 11, .int .i64 25] w fun e w' => e = .returned (.int .u32 (mix3 x 6 11 25)) ∧ w' = w := by
  have H1 := Lib.hid (rotl_at x (-6) 6 (by decide)); have H2 := Lib.hid (rotl_at x (-11) 11 (by decide)); have H3 := Lib.hid (rotl_at x (-25) 25 (by decide))
  unfold mix3 xor32
  generalize rotr x 6 = r1 at *; generalize rotr x 11 = r2 at *; generalize rotr x 25 = r3 at *
  go_enter Try.func69, Try.ntmps69
  go_wp2_with (go_at_call 79; (with_reducible first | refine (H1.out _).mono ?_ | refine (H2.out _).mono ?_ | refine (H3.out _).mono ?_); rintro e w2 ⟨rfl, hw2⟩; have h9 := hw2.symm; clear hw2; subst h9)
  go_ret
  exact ⟨rfl, rfl⟩
theorem mixed_a (x : Int) (w : World) : Calls Try.prog 69 #[.int .u32 x, .int .i64 2, .int .i64 13, .int .i64 22] w fun e w' => e = .returned (.int .u32 (mix3 x 2 13 22)) ∧ w' = w := by
  have H1 := Lib.hid (rotl_at x (-2) 2 (by decide)); have H2 := Lib.hid (rotl_at x (-13) 13 (by decide)); have H3 := Lib.hid (rotl_at x (-22) 22 (by decide))
  unfold mix3 xor32
  generalize rotr x 2 = r1 at *; generalize rotr x 13 = r2 at *; generalize rotr x 22 = r3 at *
  go_enter Try.func69, Try.ntmps69
  go_wp2_with (go_at_call 79; (with_reducible first | refine (H1.out _).mono ?_ | refine (H2.out _).mono ?_ | refine (H3.out _).mono ?_); rintro e w2 ⟨rfl, hw2⟩; have h9 := hw2.symm; clear hw2; subst h9)
  go_ret
  exact ⟨rfl, rfl⟩
theorem bytes_any (x : Int) (w : World) :
    Calls Try.prog 48 #[.int .u32 x] w fun e w' => e = .returned (.slice (some ⟨w.heap.size, 0, none⟩) 4 4) ∧ w' = w.alloc (.cells ((byteS x).map (Value.int .u8)).toArray 5) := by
  go_enter Try.func48, Try.ntmps48
  go_wp2
  go_ret
  exact ⟨rfl, rfl⟩
theorem word_any (b off len cap : Nat) (b0 b1 b2 b3 : Int) (w : World) (h4 : 4 ≤ len) (h0 : 0 ≤ b0 ∧ b0 < 256) (h1 : 0 ≤ b1 ∧ b1 < 256) (h2 : 0 ≤ b2 ∧ b2 < 256) (h3 : 0 ≤ b3 ∧ b3 < 256)
    (c0 : w.cell? ⟨b, off, none⟩ = some (.int .u8 b0)) (c1 : w.cell? ⟨b, off + 1, none⟩ = some (.int .u8 b1)) (c2 : w.cell? ⟨b, off + 2, none⟩ = some (.int .u8 b2)) (c3 : w.cell? ⟨b, off + 3, none⟩ = some (.int .u8 b3)) :
    Calls Try.prog 78 #[.slice (some ⟨b, off, none⟩) len cap] w fun e w' => e = .returned (.int .u32 (wordE b0 b1 b2 b3)) ∧ ∃ k, w' = w.drewN k := by
  go_enter Try.func78, Try.ntmps78
  go_wp2
  go_quiet (fail)
  go_wp2
  go_ret
  exact ⟨rfl, _, rfl⟩
end Go.Proofs.Ytbeoihjfjkbfhaa

namespace Go.Proofs.Ytbeoihjfjkbfhaa
set_option linter.unusedVariables false
set_option linter.unusedSimpArgs false
open Go.RowKit

theorem addr_add (g j : Nat) : (⟨g, 0, none⟩ : Addr).add j = ⟨g, j, none⟩ := by
  unfold Addr.add
  split
  · rename_i h; rw [h]
  · simp
/-- The slice v reads as xs, each of sz cells. -/
def SR {α : Type} (cs : α → List Value) (sz : Nat) (w : World) (v : Value) (xs : List α) : Prop :=
  ∃ base cap, v = .slice base xs.length cap ∧ xs.length ≤ 1000000 ∧ (xs = [] ∨ ∃ b, base = some ⟨b, 0, none⟩ ∧ ∀ k (h : k < xs.length) j u, (cs xs[k])[j]? = some u → w.cell? ⟨b, k * sz + j, none⟩ = some u)
theorem SR.ext {α : Type} {cs : α → List Value} {sz : Nat} {w w' : World} {v : Value} {xs : List α} (h : SR cs sz w v xs) (e : Ext w w') : SR cs sz w' v xs := by
  obtain ⟨base, cap, h1, h2, h3⟩ := h
  exact ⟨base, cap, h1, h2, h3.imp id fun ⟨b, hb, hc⟩ => ⟨b, hb, fun k hk j u hu => (e.cells.1 _ _ (World.block_lt_of_cell? w _ (hc k hk j u hu))).trans (hc k hk j u hu)⟩⟩
theorem SR.form {α : Type} {cs : α → List Value} {sz : Nat} {w : World} {v : Value} {xs : List α} (h : SR cs sz w v xs) : ∃ base cap, v = .slice base xs.length cap := by
  obtain ⟨base, cap, h1, -⟩ := h
  exact ⟨base, cap, h1⟩
theorem SR.le {α : Type} {cs : α → List Value} {sz : Nat} {w : World} {v : Value} {xs : List α} (h : SR cs sz w v xs) : xs.length ≤ 1000000 := by
  obtain ⟨base, cap, h1, h2, -⟩ := h
  exact h2
/-- The block, where there is an element. -/
theorem SR.block {α : Type} {cs : α → List Value} {sz : Nat} {w : World} {base : Option Addr} {n c : Nat} {xs : List α} (h : SR cs sz w (.slice base n c) xs) (k : Nat) (hk : k < xs.length) :
    ∃ b, base = some ⟨b, 0, none⟩ ∧ n = xs.length ∧ ∀ k (h : k < xs.length) j u, (cs xs[k])[j]? = some u → w.cell? ⟨b, k * sz + j, none⟩ = some u := by
  obtain ⟨base', cap, h1, h2, h3⟩ := h
  injection h1 with e1 e2 e3
  subst e1 e2
  obtain ⟨b, hb, hc⟩ := h3.resolve_left (by intro e; rw [e] at hk; simp at hk)
  exact ⟨b, hb, rfl, hc⟩
theorem flat_get {α : Type} {cs : α → List Value} {sz : Nat} : ∀ (us : List α) (_ : ∀ x ∈ us, (cs x).length = sz) (k : Nat) (h : k < us.length) (j : Nat) (u : Value), (cs us[k])[j]? = some u → (us.flatMap cs)[k * sz + j]? = some u
  | x :: us, hl, 0, h, j, u, hu => by
    have hj : j < (cs x).length := (List.getElem?_eq_some_iff.1 hu).1
    rw [List.flatMap_cons, List.getElem?_append_left (by omega), Nat.zero_mul, Nat.zero_add]
    exact hu
  | x :: us, hl, k + 1, h, j, u, hu => by
    have h1 := hl x List.mem_cons_self
    have h2 : (k + 1) * sz = k * sz + sz := Nat.succ_mul k sz
    rw [List.flatMap_cons, List.getElem?_append_right (by omega), show (k + 1) * sz + j - (cs x).length = k * sz + j by omega]
    exact flat_get us (fun y hy => hl y (List.mem_cons_of_mem _ hy)) k (by simpa using h) j u hu
theorem SR.of_row {α : Type} {cs : α → List Value} {sz : Nat} (hl : ∀ x, (cs x).length = sz) {B E : Nat} {w : World} {v : Value} {xs : List α} (h : w.ownsRow B E sz v xs.length (xs.flatMap cs)) (hn : xs.length ≤ 1000000) : SR cs sz w v xs := by
  by_cases h0 : xs = []
  · subst h0
    rcases h.2 with ⟨hn, -⟩ | ⟨g, cap, cur, hv, -⟩
    · exact ⟨none, 0, hn, by simp, .inl rfl⟩
    · exact ⟨_, cap, hv, by simp, .inl rfl⟩
  · have hp : 0 < xs.length := List.length_pos_iff.2 h0
    obtain ⟨g, cap, rfl, -, hlt⟩ := h.form hp
    refine ⟨_, cap, rfl, hn, .inr ⟨g, rfl, fun k hk j u hu => ?_⟩⟩
    have h1 := flat_get xs (fun x _ => hl x) k hk j u hu
    rw [h.cellAt (k * sz + j) (by rw [← h.1]; exact (List.getElem?_eq_some_iff.1 h1).1)]
    exact h1
theorem row_ext {B E sz n : Nat} {w w' : World} {v : Value} {xs : List Value} (ho : w.ownsRow B E sz v n xs) (e : Ext w w') : w'.ownsRow B E sz v n xs := by
  refine ⟨ho.1, ?_⟩
  rcases ho.2 with hn | ⟨g, cap, cur, hv, hb, hg, rest⟩
  · exact .inl hn
  · exact .inr ⟨g, cap, cur, hv, hb, (e.block g (Rg.lt_of_heap hg)).trans hg, rest⟩

/-- 'append' of one element, which lies in a block of its own. -/
theorem append_one {α : Type} {cs : α → List Value} {sz : Nat} (hl : ∀ x, (cs x).length = sz ∧ ∀ c ∈ cs x, c.oneCell' = true) (T E bytes : Nat) {z : Value} (hT : Try.prog.underlying T = some (.slice E))
    (hinfo : (Try.prog.info? E).map (fun i => (i.zero, i.size, i.bytes)) = some (some z, sz, bytes)) (hz : z.cells.size = sz) (h0 : 0 < sz) (hby : bytes ≤ 100000)
    {ops : Array Oper} {rest : List Oper} {o : Oper} {a : Act} {Q : Exit → Act → World → Prop} {w : World} (hgd : o.guard = none) (s x : Operand)
    (ho : o.op = .call { callee := .builtin .append, args := #[s, x], argTypes := #[T, T] }) (B : Nat) (v : Value) (vs : List α) (hs : a.eval s = v) (hF : w.ownsRow B E sz v vs.length (vs.flatMap cs))
    (p : Nat) (u : α) (hx : a.eval x = .slice (some ⟨p, 0, none⟩) 1 1) (hp : w.heap[p]? = some (.cells (cs u).toArray E)) (hn : vs.length < 1000000) (hB : B ≤ w.heap.size)
    (h : ∀ g cap w', w'.ownsRow B E sz (.slice (some ⟨g, 0, none⟩) (vs.length + 1) cap) (vs ++ [u]).length ((vs ++ [u]).flatMap cs) → Below B w w' → wpList Try.prog ops Q rest (a.put o.dst (.slice (some ⟨g, 0, none⟩) (vs.length + 1) cap)) w') : wpList Try.prog ops Q (o :: rest) a w := by
  obtain ⟨i0, hi, hz0, hz1, hz2⟩ := info_parts hinfo
  refine wpList_append_lies w hgd s x T ho B E i0 _ sz bytes hT hi hz0 hz1 hz2 hz h0 v vs.length _ hs hF ⟨p, 0, none⟩ 1 1 (cs u) hx (by rw [(hl u).1, Nat.one_mul]) ?_ (hl u).2 (by decide) (by unfold maxLen; omega) ?_ hB w.heap.size rfl ?_
  · intro j c hc
    rw [addr_add, cell_of_row w p _ _ _ _ hp]
    simpa using hc
  · have : (vs.length + 1) * bytes ≤ 1000000 * 100000 := Nat.mul_le_mul (by omega) hby
    omega
  · intro g cap w' hw hg hat hlt
    refine h g cap w' ?_ ⟨hg.os, hg.tape, hg.output, hg.size, fun k hk => hg.block k (by omega) ?_⟩
    · rw [List.flatMap_append, List.length_append]
      simpa using hw
    · intro e
      have := (hF.lt k e.symm).1
      omega

theorem append_u {α : Type} {cs : α → List Value} {sz : Nat} (T E bytes : Nat) {z : Value} (hT : Try.prog.underlying T = some (.slice E))
    (hinfo : (Try.prog.info? E).map (fun i => (i.zero, i.size, i.bytes)) = some (some z, sz, bytes)) (hz : z.cells.size = sz) (h0 : 0 < sz) (hby : bytes ≤ 100000)
    {ops : Array Oper} {rest : List Oper} {o : Oper} {a : Act} {Q : Exit → Act → World → Prop} {w : World} (hgd : o.guard = none) (s x : Operand)
    (ho : o.op = .call { callee := .builtin .append, args := #[s, x], argTypes := #[T, T] }) (B : Nat) (v : Value) (vs : List α) (hs : a.eval s = v) (hF : w.ownsRow B E sz v vs.length (vs.flatMap cs))
    (p : Nat) (u : α) (hl : (cs u).length = sz ∧ ∀ c ∈ cs u, c.oneCell' = true) (hx : a.eval x = .slice (some ⟨p, 0, none⟩) 1 1) (hp : w.heap[p]? = some (.cells (cs u).toArray E)) (hn : vs.length < 1000000) (hB : B ≤ w.heap.size)
    (h : ∀ g cap w', w'.ownsRow B E sz (.slice (some ⟨g, 0, none⟩) (vs.length + 1) cap) (vs ++ [u]).length ((vs ++ [u]).flatMap cs) → Below B w w' → wpList Try.prog ops Q rest (a.put o.dst (.slice (some ⟨g, 0, none⟩) (vs.length + 1) cap)) w') : wpList Try.prog ops Q (o :: rest) a w := by
  obtain ⟨i0, hi, hz0, hz1, hz2⟩ := info_parts hinfo
  refine wpList_append_lies w hgd s x T ho B E i0 _ sz bytes hT hi hz0 hz1 hz2 hz h0 v vs.length _ hs hF ⟨p, 0, none⟩ 1 1 (cs u) hx (by rw [hl.1, Nat.one_mul]) ?_ hl.2 (by decide) (by unfold maxLen; omega) ?_ hB w.heap.size rfl ?_
  · intro j c hc
    rw [addr_add, cell_of_row w p _ _ _ _ hp]
    simpa using hc
  · have : (vs.length + 1) * bytes ≤ 1000000 * 100000 := Nat.mul_le_mul (by omega) hby
    omega
  · intro g cap w' hw hg hat hlt
    refine h g cap w' ?_ ⟨hg.os, hg.tape, hg.output, hg.size, fun k hk => hg.block k (by omega) ?_⟩
    · rw [List.flatMap_append, List.length_append]
      simpa using hw
    · intro e
      have := (hF.lt k e.symm).1
      omega

/-- The slice v holds the ints, below the block B. -/
def IRd (w : World) (v : Value) (ls : List Int) : Prop :=
  ∃ A cap, v = .slice A ls.length cap ∧ ls.length ≤ 9223372036854775807 ∧ (∀ z ∈ ls, -9223372036854775808 ≤ z ∧ z ≤ 9223372036854775807) ∧
    (ls = [] ∨ ∃ b off, A = some ⟨b, off, none⟩ ∧ ∀ k (h : k < ls.length), w.cell? ⟨b, off + k, none⟩ = some (.int .i64 ls[k]))
theorem IRd.ext {w w' : World} {v : Value} {ls : List Int} (h : IRd w v ls) (e : Ext w w') : IRd w' v ls := by
  obtain ⟨A, cap, h1, h2, h3, h4⟩ := h
  exact ⟨A, cap, h1, h2, h3, h4.imp id fun ⟨b, off, ha, hc⟩ => ⟨b, off, ha, fun k hk => (e.cells.1 _ _ (World.block_lt_of_cell? w _ (hc k hk))).trans (hc k hk)⟩⟩

theorem up_row {ρ : Operand → Value} {d : Option Tmp} {x : Operand} {ty : TypeId} {ps : String} {af : Array Edge} {gd : Option (Nat × Bool)} {w : World} {g : Nat} {T t : TypeId} {cs : Array Value} {fs : Array Field} {fr : Nat × Nat}
    (hx : ρ x = .pointer (some ⟨g, 0, none⟩)) (hg : w.heap[g]? = some (.cells cs t fr))
    (hu : Try.prog.underlying T = some (.struct fs)) (hi : (Try.prog.info? T).map (·.size) = some cs.size) :
    Rg.up Try.prog w (.agg cs) ((execOp ρ { dst := d, op := .load T x, type := ty, pos := ps, after := af, guard := gd }).run Try.prog w) := by
  have h := run_loadVar_row (P := Try.prog) w g t T cs _ (.struct fs) hg hu rfl hi
  unfold execOp
  simp only [hx, Instr.loadAt, Instr.sureAddr, Sem.run_bind, Sem.run_pure, Result.andThen_ok, h]
  exact Rg.up_value
theorem wpList_store_row {ops : Array Oper} {rest : List Oper} {o : Oper} {a : Act} {w : World} {Q : Exit → Act → World → Prop} (hgd : o.guard = none) (T : TypeId) (x y : Operand) (ho : o.op = .store T x y)
    (g : Nat) (hx : a.eval x = .pointer (some ⟨g, 0, none⟩)) (cs : Array Value) (hy : a.eval y = .agg cs) (old : Array Value) (t : TypeId) (hg : w.heap[g]? = some (.cells old t (0, 0))) (hl : old.size = cs.size)
    (hi : (Try.prog.info? T).map (·.size) = some cs.size) (h1 : ∀ v ∈ cs.toList, v.oneCell' = true)
    (h : wpList Try.prog ops Q rest (a.put o.dst undef) (w.setRow g cs)) : wpList Try.prog ops Q (o :: rest) a w := by
  refine wpList_plain hgd fun K hK => ?_
  have hr := run_storeCells_at (P := Try.prog) g 0 t cs.toList 0 old w hg (by simp; omega) h1
  have he : (old.toList.take (0 + 0) ++ cs.toList ++ old.toList.drop (0 + 0 + cs.toList.length)).toArray = cs := by
    rw [List.drop_eq_nil_of_le (by simp; omega)]; simp
  rw [he] at hr
  unfold Oper.wp execOp
  have hs : (Go.sizeOf T).run Try.prog w = .ok cs.size w := by
    cases hq : Try.prog.info? T with
    | none => simp [hq] at hi
    | some i =>
      have hs : i.size = cs.size := by simpa [hq] using hi
      simp [sizeOf, typeInfo, hq, hs]
  have hst : (storeVar T ⟨g, 0, none⟩ (.agg cs)).run Try.prog w = .ok () (w.setRow g cs) := by
    unfold storeVar
    simp only [Value.cells, Sem.run_bind, hs, Result.andThen_ok, ne_eq, not_true_eq_false, if_false]
    exact hr
  simp only [ho, hx, hy, Instr.storeAt, Instr.sureAddr, Sem.run_bind, Sem.run_pure, Result.andThen_ok, hst]
  exact hK _ _ h

end Go.Proofs.Ytbeoihjfjkbfhaa

namespace Go.Proofs.Ytbeoihjfjkbfhaa
set_option linter.unusedVariables false
set_option linter.unusedSimpArgs false
open Go.RowKit

def iof : Value → Int
  | .int _ z => z
  | _ => 0
theorem heap_setCell_row {w : World} {g o : Nat} {cs : Array Value} {t : TypeId} {fr : Nat × Nat} (v : Value) (hg : w.heap[g]? = some (.cells cs t fr)) : (w.setCell ⟨g, o, none⟩ v).heap[g]? = some (.cells (cs.setIfInBounds o v) t fr) := by
  have hlt := (Array.getElem?_eq_some_iff.1 hg).1
  simp [World.setCell, Array.getElem?_modify, hg]
theorem heap_setCell_other {w : World} {g k o : Nat} (v : Value) (h : k ≠ g) : (w.setCell ⟨g, o, none⟩ v).heap[k]? = w.heap[k]? := RowKit.Below.heap_setCell _ _ _ _ h
theorem alloc_at (w : World) (o : Obj) : (w.alloc o).heap[w.heap.size]? = some o := by show (w.heap.push o)[w.heap.size]? = _; simp
theorem alloc_old {w : World} (o : Obj) {k : Nat} (h : k < w.heap.size) : (w.alloc o).heap[k]? = w.heap[k]? := Below.heap_alloc w o k h
theorem two_blocks (w : World) (o1 o2 : Obj) : ((w.alloc o1).alloc o2).heap[w.heap.size]? = some o1 ∧ ((w.alloc o1).alloc o2).heap[w.heap.size + 1]? = some o2 := by
  refine ⟨by rw [alloc_old _ (by simp), alloc_at], ?_⟩
  have := alloc_at (w.alloc o1) o2
  simpa using this
end Go.Proofs.Ytbeoihjfjkbfhaa
