/-
  A region 'x, y := f(..), g(..)' whose two results lie in blocks of the call's own: two reads, two operations, two blocks made, two stores, in whatever order. Conditions: what waits for what, which the kernel reckons, and what each operation does.
-/
import Derived.Test.YtgkdeknfmmgbdaaJnI
namespace Go.Proofs.Ytgkdeknfmmgbdaa.Pr
set_option linter.unusedVariables false
set_option linter.unusedSimpArgs false
open Go.RowKit Go.Proofs.Ytgkdeknfmmgbdaa Go.Proofs.Ytgkdeknfmmgbdaa.Rr Go.Proofs.Ytgkdeknfmmgbdaa.Rg

theorem wpAny_inv {P : Program} {md : Region.Mode} {ops : Array Oper} {Q : Exit → Act → World → Prop} {I : Array Bool → Act → World → Prop} {N : Nat} (hN : ∀ l a w, I l a w → l.size = N)
    (hstep : ∀ l a w i, I l a w → i ∈ Region.ready md ops l → wpOp P ops Q i (I (l.setIfInBounds i true)) a w) (hdone : ∀ l a w, I l a w → Region.ready md ops l = [] → Q .normal a w) :
    ∀ (fuel : Nat) (l : Array Bool) (a : Act) (w : World), I l a w → l.toList.count false ≤ fuel → wpAny P md ops Q fuel l a w
  | 0, l, a, w, h, hc => by
    have h0 : Region.ready md ops l = [] := List.eq_nil_iff_forall_not_mem.2 fun i hi => by
      have h1 := (mem_ready.1 hi).1
      have hlt : i < l.size := by
        rcases Nat.lt_or_ge i l.size with h | h
        · exact h
        · simp [h] at h1
      have h2 : false ∈ l.toList := by
        have : l[i] = false := by simpa [hlt] using h1
        rw [← this]
        exact Array.getElem_mem_toList hlt
      have := List.count_pos_iff.2 h2
      omega
    exact ⟨h0, hdone _ _ _ h h0⟩
  | fuel + 1, l, a, w, h, hc => by
    refine ⟨fun h0 => hdone _ _ _ h h0, fun i hi => wpOp_mono (fun a' w' h' => wpAny_inv hN hstep hdone fuel _ _ _ h' ?_) (hstep l a w i h hi)⟩
    have h1 := (mem_ready.1 hi).1
    have hlt : i < l.size := by
      rcases Nat.lt_or_ge i l.size with h | h
      · exact h
      · simp [h] at h1
    have h2 : l[i] = false := by simpa [hlt] using h1
    have h3 : (l.setIfInBounds i true).toList.count false + 1 = l.toList.count false := by
      rw [Array.toList_setIfInBounds, List.count_set (by simpa using hlt), if_pos (by simp [h2]), if_neg (by simp)]
      have : false ∈ l.toList := by rw [← h2]; exact Array.getElem_mem_toList hlt
      have hp := List.count_pos_iff.2 this
      omega
    omega

/-- How far it has come: b0 .. b7 say which operations are done. -/
structure St {A B : Type} (F : Value → Value → Value → Value → Value → Value → Act) (u0 u1 u2 u3 u4 u5 X Y : Value) (va : A → Value) (vb : B → Value) (RA : A → Prop) (RB : B → Prop) (Z : Obj) (oa : A → Obj) (ob : B → Obj) (w0 : World)
    (b0 b1 b2 b3 b4 b5 b6 b7 : Bool) (xa : A) (xb : B) (p q : Nat) (a : Act) (w : World) : Prop where
  act : a = F (if b0 then X else u0) (if b1 then va xa else u1) (if b2 then Y else u2) (if b3 then vb xb else u3) (if b4 then ptr p else u4) (if b5 then ptr q else u5)
  ext : Ext w0 w
  ra : b1 = true → RA xa
  rb : b3 = true → RB xb
  hp : b4 = true → w0.heap.size ≤ p ∧ w.heap[p]? = some (if b6 then oa xa else Z)
  hq : b5 = true → w0.heap.size ≤ q ∧ w.heap[q]? = some (if b7 then ob xb else Z)
  ne : b4 = true → b5 = true → q ≠ p
  c6 : b6 = true → b1 = true ∧ b4 = true
  c7 : b7 = true → b3 = true ∧ b5 = true

/-- What an operation does, kept shut. -/
structure Owp (P : Program) (o : Oper) (a : Act) (w : World) (K : Act → World → Prop) (Q : Exit → Act → World → Prop) : Prop where
  out : o.wp P a w K Q
theorem wpOp_of {P : Program} {ops : Array Oper} {Q : Exit → Act → World → Prop} {i : Nat} {o : Oper} {K : Act → World → Prop} {a : Act} {w : World} (hi : ops[i]? = some o) (hg : o.guard = none) (hO : Owp P o a w K Q) : wpOp P ops Q i K a w := by
  unfold Go.wpOp
  have hw : Region.wanted o (yielded ops a.tmps) = true := by unfold Region.wanted; rw [hg]
  simp only [hi, hw, if_true]
  exact .inl hO.out

set_option maxHeartbeats 1000000 in
theorem pair_region {A B : Type} [Inhabited A] [Inhabited B] {P : Program} {id : Nat} {Q : Exit → Act → World → Prop} {a : Act} {w : World} {o0 o1 o2 o3 o4 o5 o6 o7 : Oper} (F : Value → Value → Value → Value → Value → Value → Act) (u0 u1 u2 u3 u4 u5 X Y : Value) (va : A → Value) (vb : B → Value) (RA : A → Prop) (RB : B → Prop) (Z : Obj) (oa : A → Obj) (ob : B → Obj)
    (hm : P.follows .mixedOrders = true) (ha : a = F u0 u1 u2 u3 u4 u5)
    (hB : ((Region.waitsFor .any [o0, o1, o2, o3, o4, o5, o6, o7].toArray 1 0 && Region.waitsFor .any [o0, o1, o2, o3, o4, o5, o6, o7].toArray 3 2 && Region.waitsFor .any [o0, o1, o2, o3, o4, o5, o6, o7].toArray 6 4 && Region.waitsFor .any [o0, o1, o2, o3, o4, o5, o6, o7].toArray 6 1 && Region.waitsFor .any [o0, o1, o2, o3, o4, o5, o6, o7].toArray 7 5 && Region.waitsFor .any [o0, o1, o2, o3, o4, o5, o6, o7].toArray 7 3)
      && [o0, o1, o2, o3, o4, o5, o6, o7].all (fun o => o.guard.isNone) && (List.range 8).all (fun i => match [o0, o1, o2, o3, o4, o5, o6, o7].toArray[i]? with | some o => o.after.all (fun e => decide (e.on < i)) | none => false)) = true)
    (h0 : ∀ v1 v2 v3 v4 v5 w' (K : Act → World → Prop), Ext w w' → (∀ w'', Ext w' w'' → K (F X v1 v2 v3 v4 v5) w'') → Owp P o0 (F u0 v1 v2 v3 v4 v5) w' K Q)
    (h1 : ∀ v2 v3 v4 v5 w' (K : Act → World → Prop), Ext w w' → (∀ x w'', RA x → Ext w' w'' → K (F X (va x) v2 v3 v4 v5) w'') → Owp P o1 (F X u1 v2 v3 v4 v5) w' K Q)
    (h2 : ∀ v0 v1 v3 v4 v5 w' (K : Act → World → Prop), Ext w w' → (∀ w'', Ext w' w'' → K (F v0 v1 Y v3 v4 v5) w'') → Owp P o2 (F v0 v1 u2 v3 v4 v5) w' K Q)
    (h3 : ∀ v0 v1 v4 v5 w' (K : Act → World → Prop), Ext w w' → (∀ x w'', RB x → Ext w' w'' → K (F v0 v1 Y (vb x) v4 v5) w'') → Owp P o3 (F v0 v1 Y u3 v4 v5) w' K Q)
    (h4 : ∀ v0 v1 v2 v3 v5 w' (K : Act → World → Prop), K (F v0 v1 v2 v3 (ptr w'.heap.size) v5) (w'.alloc Z) → Owp P o4 (F v0 v1 v2 v3 u4 v5) w' K Q)
    (h5 : ∀ v0 v1 v2 v3 v4 w' (K : Act → World → Prop), K (F v0 v1 v2 v3 v4 (ptr w'.heap.size)) (w'.alloc Z) → Owp P o5 (F v0 v1 v2 v3 v4 u5) w' K Q)
    (h6 : ∀ x p v0 v2 v3 v5 w' (K : Act → World → Prop), RA x → w'.heap[p]? = some Z → (∀ w'', w''.heap[p]? = some (oa x) → (∀ r, r ≠ p → w''.heap[r]? = w'.heap[r]?) → (∀ B, B ≤ p → Below B w' w'') → K (F v0 (va x) v2 v3 (ptr p) v5) w'') → Owp P o6 (F v0 (va x) v2 v3 (ptr p) v5) w' K Q)
    (h7 : ∀ x p v0 v1 v2 v4 w' (K : Act → World → Prop), RB x → w'.heap[p]? = some Z → (∀ w'', w''.heap[p]? = some (ob x) → (∀ r, r ≠ p → w''.heap[r]? = w'.heap[r]?) → (∀ B, B ≤ p → Below B w' w'') → K (F v0 v1 v2 (vb x) v4 (ptr p)) w'') → Owp P o7 (F v0 v1 v2 (vb x) v4 (ptr p)) w' K Q)
    (fin : ∀ xa xb p q w', RA xa → RB xb → Ext w w' → w.heap.size ≤ p → w.heap.size ≤ q → q ≠ p → w'.heap[p]? = some (oa xa) → w'.heap[q]? = some (ob xb) → Q .normal (F X (va xa) Y (vb xb) (ptr p) (ptr q)) w') :
    (Code.region id [o0, o1, o2, o3, o4, o5, o6, o7].toArray true).wp P Q a w := by
  simp only [Bool.and_eq_true] at hB
  obtain ⟨⟨⟨⟨⟨⟨⟨e10, e32⟩, e64⟩, e61⟩, e75⟩, e73⟩, hg⟩, hbk⟩ := hB
  rw [List.all_eq_true] at hbk
  simp only [List.all_cons, List.all_nil, Bool.and_eq_true, Bool.and_true, Option.isNone_iff_eq_none] at hg
  obtain ⟨g0, g1, g2, g3, g4, g5, g6, g7⟩ := hg
  refine wp_region_any hm ?_
  have dep : ∀ (b : Array Bool) (j i : Nat), Region.waitsFor .any [o0, o1, o2, o3, o4, o5, o6, o7].toArray j i = true → j ∈ Region.ready .any [o0, o1, o2, o3, o4, o5, o6, o7].toArray b → b.getD i false = true := by
    intro b j i hw hr
    obtain ⟨oj, hoj, e, he, hb, hon⟩ := Region.waitsFor_spec hw
    obtain ⟨_, oj', hoj', hall⟩ := mem_ready.1 hr
    have : oj = oj' := Option.some.inj (hoj.symm.trans hoj')
    subst this
    rw [← hon]
    exact hall e he hb
  refine wpAny_inv (I := fun b a w' => ∃ b0 b1 b2 b3 b4 b5 b6 b7 xa xb p q, b = #[b0, b1, b2, b3, b4, b5, b6, b7] ∧ St F u0 u1 u2 u3 u4 u5 X Y va vb RA RB Z oa ob w b0 b1 b2 b3 b4 b5 b6 b7 xa xb p q a w') (N := 8) ?_ ?_ ?_ _ _ _ _ ?_ ?_
  · rintro b a w' ⟨_, _, _, _, _, _, _, _, _, _, _, _, rfl, _⟩
    rfl
  · rintro b a w' i ⟨b0, b1, b2, b3, b4, b5, b6, b7, xa, xb, p, q, rfl, hS⟩ hi
    obtain ⟨hun, o, ho, -⟩ := mem_ready.1 hi
    have d := fun j h => dep _ i j h hi
    have hi8 : i < 8 := by
      have := (Array.getElem?_eq_some_iff.1 ho).1
      simpa using this
    obtain ⟨act, ext, ra, rb, hp, hq, ne, c6, c7⟩ := hS
    subst act
    have kp : ∀ {x : Nat} {ob : Obj} {w2 w3 : World}, Ext w2 w3 → w2.heap[x]? = some ob → w3.heap[x]? = some ob := fun e h => (e.block _ (lt_of_heap h)).trans h
    clear dep hi ho
    match i, hi8 with
    | 0, _ =>
      obtain rfl : b0 = false := by simpa using hun
      exact wpOp_of rfl g0 (h0 _ _ _ _ _ _ _ ext fun w2 e => ⟨true, b1, b2, b3, b4, b5, b6, b7, xa, xb, p, q, rfl, rfl, ext.trans e, ra, rb, fun h => ⟨(hp h).1, kp e (hp h).2⟩, fun h => ⟨(hq h).1, kp e (hq h).2⟩, ne, c6, c7⟩)
    | 1, _ =>
      obtain rfl : b1 = false := by simpa using hun
      obtain rfl : b0 = true := by simpa using d 0 e10
      obtain rfl : b6 = false := by cases b6; rfl; exact absurd (c6 rfl).1 (by decide)
      refine wpOp_of rfl g1 (h1 _ _ _ _ _ _ ext fun x w2 hx e => ?_)
      exact ⟨true, true, b2, b3, b4, b5, false, b7, x, xb, p, q, rfl, rfl, ext.trans e, fun _ => hx, rb, fun h => ⟨(hp h).1, kp e (hp h).2⟩, fun h => ⟨(hq h).1, kp e (hq h).2⟩, ne, fun h => (by cases h), c7⟩
    | 2, _ =>
      obtain rfl : b2 = false := by simpa using hun
      exact wpOp_of rfl g2 (h2 _ _ _ _ _ _ _ ext fun w2 e => ⟨b0, b1, true, b3, b4, b5, b6, b7, xa, xb, p, q, rfl, rfl, ext.trans e, ra, rb, fun h => ⟨(hp h).1, kp e (hp h).2⟩, fun h => ⟨(hq h).1, kp e (hq h).2⟩, ne, c6, c7⟩)
    | 3, _ =>
      obtain rfl : b3 = false := by simpa using hun
      obtain rfl : b2 = true := by simpa using d 2 e32
      obtain rfl : b7 = false := by cases b7; rfl; exact absurd (c7 rfl).1 (by decide)
      refine wpOp_of rfl g3 (h3 _ _ _ _ _ _ ext fun x w2 hx e => ?_)
      exact ⟨b0, b1, true, true, b4, b5, b6, false, xa, x, p, q, rfl, rfl, ext.trans e, ra, fun _ => hx, fun h => ⟨(hp h).1, kp e (hp h).2⟩, fun h => ⟨(hq h).1, kp e (hq h).2⟩, ne, c6, fun h => (by cases h)⟩
    | 4, _ =>
      obtain rfl : b4 = false := by simpa using hun
      obtain rfl : b6 = false := by cases b6; rfl; exact absurd (c6 rfl).2 (by decide)
      refine wpOp_of rfl g4 (h4 _ _ _ _ _ _ _ ?_)
      have e : Ext w' (w'.alloc Z) := Ext.alloc (Ext.refl _) _
      exact ⟨b0, b1, b2, b3, true, b5, false, b7, xa, xb, w'.heap.size, q, rfl, rfl, ext.trans e, ra, rb, fun _ => ⟨ext.size, heap_alloc_new _ _⟩, fun h => ⟨(hq h).1, kp e (hq h).2⟩, fun _ h => Nat.ne_of_lt (lt_of_heap (hq h).2), fun h => (by cases h), c7⟩
    | 5, _ =>
      obtain rfl : b5 = false := by simpa using hun
      obtain rfl : b7 = false := by cases b7; rfl; exact absurd (c7 rfl).2 (by decide)
      refine wpOp_of rfl g5 (h5 _ _ _ _ _ _ _ ?_)
      have e : Ext w' (w'.alloc Z) := Ext.alloc (Ext.refl _) _
      exact ⟨b0, b1, b2, b3, b4, true, b6, false, xa, xb, p, w'.heap.size, rfl, rfl, ext.trans e, ra, rb, fun h => ⟨(hp h).1, kp e (hp h).2⟩, fun _ => ⟨ext.size, heap_alloc_new _ _⟩, fun h _ => (Nat.ne_of_lt (lt_of_heap (hp h).2)).symm, c6, fun h => (by cases h)⟩
    | 6, _ =>
      obtain rfl : b6 = false := by simpa using hun
      obtain rfl : b4 = true := by simpa using d 4 e64
      obtain rfl : b1 = true := by simpa using d 1 e61
      refine wpOp_of rfl g6 (h6 _ _ _ _ _ _ _ _ (ra rfl) (hp rfl).2 fun w2 k1 k2 k3 => ?_)
      exact ⟨b0, true, b2, b3, true, b5, true, b7, xa, xb, p, q, rfl, rfl, Below.trans ext (k3 _ (hp rfl).1), ra, rb, fun _ => ⟨(hp rfl).1, k1⟩, fun h => ⟨(hq h).1, (k2 _ (ne rfl h)).trans (hq h).2⟩, ne, fun _ => ⟨rfl, rfl⟩, c7⟩
    | 7, _ =>
      obtain rfl : b7 = false := by simpa using hun
      obtain rfl : b5 = true := by simpa using d 5 e75
      obtain rfl : b3 = true := by simpa using d 3 e73
      refine wpOp_of rfl g7 (h7 _ _ _ _ _ _ _ _ (rb rfl) (hq rfl).2 fun w2 k1 k2 k3 => ?_)
      exact ⟨b0, b1, b2, true, b4, true, b6, true, xa, xb, p, q, rfl, rfl, Below.trans ext (k3 _ (hq rfl).1), ra, rb, fun h => ⟨(hp h).1, (k2 _ (Ne.symm (ne h rfl))).trans (hp h).2⟩, fun _ => ⟨(hq rfl).1, k1⟩, ne, c6, fun _ => ⟨rfl, rfl⟩⟩
  · rintro b a w' ⟨b0, b1, b2, b3, b4, b5, b6, b7, xa, xb, p, q, rfl, hS⟩ h0
    have all : ∀ i, i < 8 → #[b0, b1, b2, b3, b4, b5, b6, b7].getD i false = true := by
      intro i
      induction i using Nat.strongRecOn with
      | _ i ih =>
        intro hi
        cases hc : #[b0, b1, b2, b3, b4, b5, b6, b7].getD i false with
        | true => rfl
        | false =>
          have hk := hbk i (List.mem_range.2 hi)
          split at hk
          · rename_i o ho
            have : i ∈ Region.ready .any [o0, o1, o2, o3, o4, o5, o6, o7].toArray #[b0, b1, b2, b3, b4, b5, b6, b7] := mem_ready.2 ⟨getD_in (by simpa using hi) hc, o, ho, fun e he _ => by
              have := Array.all_eq_true_iff_forall_mem.1 hk e he
              have h1 := of_decide_eq_true this
              exact ih _ h1 (by omega)⟩
            rw [h0] at this
            cases this
          · cases hk
    obtain rfl : b0 = true := by simpa using all 0 (by decide)
    obtain rfl : b1 = true := by simpa using all 1 (by decide)
    obtain rfl : b2 = true := by simpa using all 2 (by decide)
    obtain rfl : b3 = true := by simpa using all 3 (by decide)
    obtain rfl : b4 = true := by simpa using all 4 (by decide)
    obtain rfl : b5 = true := by simpa using all 5 (by decide)
    obtain rfl : b6 = true := by simpa using all 6 (by decide)
    obtain rfl : b7 = true := by simpa using all 7 (by decide)
    obtain ⟨act, ext, ra, rb, hp, hq, ne, c6, c7⟩ := hS
    subst act
    exact fin _ _ _ _ _ (ra rfl) (rb rfl) ext (hp rfl).1 (hq rfl).1 (ne rfl rfl) (hp rfl).2 (hq rfl).2
  · exact ⟨false, false, false, false, false, false, false, false, default, default, 0, 0, rfl, ha, Ext.drew (Ext.refl w), fun h => (by cases h), fun h => (by cases h), fun h => (by cases h), fun h => (by cases h), fun h => (by cases h), fun h => (by cases h), fun h => (by cases h)⟩
  · simp

/-- The frame with six slots written. -/
def Pf (a : Act) (d0 d1 d2 d3 d4 d5 : Nat) (v0 v1 v2 v3 v4 v5 : Value) : Act :=
  { tmps := (((((a.tmps.setIfInBounds d0 v0).setIfInBounds d1 v1).setIfInBounds d2 v2).setIfInBounds d3 v3).setIfInBounds d4 v4).setIfInBounds d5 v5, defers := a.defers }
theorem Pf_put {a : Act} {d0 d1 d2 d3 d4 d5 : Nat} (hd : [d0, d1, d2, d3, d4, d5].Nodup) (v0 v1 v2 v3 v4 v5 x : Value) :
    (Pf a d0 d1 d2 d3 d4 d5 v0 v1 v2 v3 v4 v5).put (some d0) x = Pf a d0 d1 d2 d3 d4 d5 x v1 v2 v3 v4 v5 ∧ (Pf a d0 d1 d2 d3 d4 d5 v0 v1 v2 v3 v4 v5).put (some d1) x = Pf a d0 d1 d2 d3 d4 d5 v0 x v2 v3 v4 v5 ∧
    (Pf a d0 d1 d2 d3 d4 d5 v0 v1 v2 v3 v4 v5).put (some d2) x = Pf a d0 d1 d2 d3 d4 d5 v0 v1 x v3 v4 v5 ∧ (Pf a d0 d1 d2 d3 d4 d5 v0 v1 v2 v3 v4 v5).put (some d3) x = Pf a d0 d1 d2 d3 d4 d5 v0 v1 v2 x v4 v5 ∧
    (Pf a d0 d1 d2 d3 d4 d5 v0 v1 v2 v3 v4 v5).put (some d4) x = Pf a d0 d1 d2 d3 d4 d5 v0 v1 v2 v3 x v5 ∧ (Pf a d0 d1 d2 d3 d4 d5 v0 v1 v2 v3 v4 v5).put (some d5) x = Pf a d0 d1 d2 d3 d4 d5 v0 v1 v2 v3 v4 x := by
  simp only [List.nodup_cons, List.mem_cons, List.not_mem_nil, or_false, not_or, not_false_eq_true, List.nodup_nil, and_true] at hd
  obtain ⟨⟨n1, n2, n3, n4, n5⟩, ⟨n6, n7, n8, n9⟩, ⟨n10, n11, n12⟩, ⟨n13, n14⟩, n15⟩ := hd
  have key : ∀ t t' : Array Value, t = t' → ({ tmps := t, defers := a.defers } : Act) = { tmps := t', defers := a.defers } := fun t t' h => by rw [h]
  unfold Pf
  refine ⟨key _ _ ?_, key _ _ ?_, key _ _ ?_, key _ _ ?_, key _ _ ?_, key _ _ ?_⟩
  · show Array.setIfInBounds _ d0 x = _
    rw [Array.setIfInBounds_comm _ _ (Ne.symm n5), Array.setIfInBounds_comm _ _ (Ne.symm n4), Array.setIfInBounds_comm _ _ (Ne.symm n3), Array.setIfInBounds_comm _ _ (Ne.symm n2), Array.setIfInBounds_comm _ _ (Ne.symm n1), Array.setIfInBounds_setIfInBounds]
  · show Array.setIfInBounds _ d1 x = _
    rw [Array.setIfInBounds_comm _ _ (Ne.symm n9), Array.setIfInBounds_comm _ _ (Ne.symm n8), Array.setIfInBounds_comm _ _ (Ne.symm n7), Array.setIfInBounds_comm _ _ (Ne.symm n6), Array.setIfInBounds_setIfInBounds]
  · show Array.setIfInBounds _ d2 x = _
    rw [Array.setIfInBounds_comm _ _ (Ne.symm n12), Array.setIfInBounds_comm _ _ (Ne.symm n11), Array.setIfInBounds_comm _ _ (Ne.symm n10), Array.setIfInBounds_setIfInBounds]
  · show Array.setIfInBounds _ d3 x = _
    rw [Array.setIfInBounds_comm _ _ (Ne.symm n14), Array.setIfInBounds_comm _ _ (Ne.symm n13), Array.setIfInBounds_setIfInBounds]
  · show Array.setIfInBounds _ d4 x = _
    rw [Array.setIfInBounds_comm _ _ (Ne.symm n15), Array.setIfInBounds_setIfInBounds]
  · show Array.setIfInBounds _ d5 x = _
    rw [Array.setIfInBounds_setIfInBounds]

theorem wp_of_up {P : Program} {o : Oper} {a : Act} {w : World} {v : Value} {K : Act → World → Prop} {Q : Exit → Act → World → Prop} (hu : up P w v ((execOp a.eval o).run P w)) (h : ∀ w', Ext w w' → K (a.put o.dst v) w') : Owp P o a w K Q := by
  constructor
  unfold Oper.wp
  generalize (execOp a.eval o).run P w = r at *
  cases r with
  | ok x w' =>
    cases x <;> simp only [up] at hu <;> simp only [Oper.upon]
    case value u => obtain ⟨rfl, rfl⟩ := hu; exact h _ (Ext.refl _)
    case skip => obtain ⟨rfl, rfl⟩ := hu; exact h _ (Ext.refl _)
    case enter f args =>
      obtain ⟨rfl, hc⟩ := hu
      exact hc.mono fun e w'' ⟨he, hb⟩ => by subst he; exact h _ hb
  | halt x w' => simp only [up] at hu
theorem wp_of_upR {P : Program} {o : Oper} {a : Act} {w : World} {R : Value → World → Prop} {K : Act → World → Prop} {Q : Exit → Act → World → Prop} (hu : upR P (fun _ _ => False) w R ((execOp a.eval o).run P w)) (h : ∀ v w', Ext w w' → R v w' → K (a.put o.dst v) w') : Owp P o a w K Q := by
  constructor
  unfold Oper.wp
  generalize (execOp a.eval o).run P w = r at *
  cases r with
  | ok x w' =>
    cases x <;> simp only [upR] at hu
    case value v =>
      simp only [Oper.upon]
      exact h _ _ hu.1 hu.2
    case enter f args =>
      simp only [Oper.upon]
      obtain ⟨rfl, hc⟩ := hu
      refine hc.mono fun e w'' ⟨hb, hr⟩ => ?_
      rcases hr with ⟨v, he, hr⟩ | ⟨c, he, hr⟩
      · subst he; exact h _ _ hb hr
      · exact hr.elim
  | halt x w' => simp only [upR] at hu
theorem wp_of_ok {P : Program} {o : Oper} {a : Act} {w w' : World} {v : Value} {K : Act → World → Prop} {Q : Exit → Act → World → Prop} (hu : (execOp a.eval o).run P w = .ok (.value v) w') (h : K (a.put o.dst v) w') : Owp P o a w K Q := by
  constructor
  unfold Oper.wp
  rw [hu]
  exact h
set_option maxHeartbeats 1000000 in
theorem pair_regionP {A B : Type} [Inhabited A] [Inhabited B] {P : Program} {id : Nat} {Q : Exit → Act → World → Prop} {a : Act} {w : World} {o0 o1 o2 o3 o4 o5 o6 o7 : Oper} (E : Act → Prop) (d0 d1 d2 d3 d4 d5 : Nat) (u0 u1 u2 u3 u4 u5 X Y : Value) (va : A → Value) (vb : B → Value) (RA : A → Prop) (RB : B → Prop) (Z : Obj) (oa : A → Obj) (ob : B → Obj)
    (hm : P.follows .mixedOrders = true) (hE : E a) (ha : a = Pf a d0 d1 d2 d3 d4 d5 u0 u1 u2 u3 u4 u5)
    (hB : ((Region.waitsFor .any [o0, o1, o2, o3, o4, o5, o6, o7].toArray 1 0 && Region.waitsFor .any [o0, o1, o2, o3, o4, o5, o6, o7].toArray 3 2 && Region.waitsFor .any [o0, o1, o2, o3, o4, o5, o6, o7].toArray 6 4 && Region.waitsFor .any [o0, o1, o2, o3, o4, o5, o6, o7].toArray 6 1 && Region.waitsFor .any [o0, o1, o2, o3, o4, o5, o6, o7].toArray 7 5 && Region.waitsFor .any [o0, o1, o2, o3, o4, o5, o6, o7].toArray 7 3)
      && [o0, o1, o2, o3, o4, o5, o6, o7].all (fun o => o.guard.isNone) && (List.range 8).all (fun i => match [o0, o1, o2, o3, o4, o5, o6, o7].toArray[i]? with | some o => o.after.all (fun e => decide (e.on < i)) | none => false)) = true)
    (h0 : ∀ A, E A → ∀ v1 v2 v3 v4 v5 w' (K : Act → World → Prop), Ext w w' → (∀ w'', Ext w' w'' → K (Pf A d0 d1 d2 d3 d4 d5 X v1 v2 v3 v4 v5) w'') → Owp P o0 (Pf A d0 d1 d2 d3 d4 d5 u0 v1 v2 v3 v4 v5) w' K Q)
    (h1 : ∀ A, E A → ∀ v2 v3 v4 v5 w' (K : Act → World → Prop), Ext w w' → (∀ x w'', RA x → Ext w' w'' → K (Pf A d0 d1 d2 d3 d4 d5 X (va x) v2 v3 v4 v5) w'') → Owp P o1 (Pf A d0 d1 d2 d3 d4 d5 X u1 v2 v3 v4 v5) w' K Q)
    (h2 : ∀ A, E A → ∀ v0 v1 v3 v4 v5 w' (K : Act → World → Prop), Ext w w' → (∀ w'', Ext w' w'' → K (Pf A d0 d1 d2 d3 d4 d5 v0 v1 Y v3 v4 v5) w'') → Owp P o2 (Pf A d0 d1 d2 d3 d4 d5 v0 v1 u2 v3 v4 v5) w' K Q)
    (h3 : ∀ A, E A → ∀ v0 v1 v4 v5 w' (K : Act → World → Prop), Ext w w' → (∀ x w'', RB x → Ext w' w'' → K (Pf A d0 d1 d2 d3 d4 d5 v0 v1 Y (vb x) v4 v5) w'') → Owp P o3 (Pf A d0 d1 d2 d3 d4 d5 v0 v1 Y u3 v4 v5) w' K Q)
    (h4 : ∀ A, E A → ∀ v0 v1 v2 v3 v5 w' (K : Act → World → Prop), K (Pf A d0 d1 d2 d3 d4 d5 v0 v1 v2 v3 (ptr w'.heap.size) v5) (w'.alloc Z) → Owp P o4 (Pf A d0 d1 d2 d3 d4 d5 v0 v1 v2 v3 u4 v5) w' K Q)
    (h5 : ∀ A, E A → ∀ v0 v1 v2 v3 v4 w' (K : Act → World → Prop), K (Pf A d0 d1 d2 d3 d4 d5 v0 v1 v2 v3 v4 (ptr w'.heap.size)) (w'.alloc Z) → Owp P o5 (Pf A d0 d1 d2 d3 d4 d5 v0 v1 v2 v3 v4 u5) w' K Q)
    (h6 : ∀ A, E A → ∀ x p v0 v2 v3 v5 w' (K : Act → World → Prop), RA x → w'.heap[p]? = some Z → (∀ w'', w''.heap[p]? = some (oa x) → (∀ r, r ≠ p → w''.heap[r]? = w'.heap[r]?) → (∀ B, B ≤ p → Below B w' w'') → K (Pf A d0 d1 d2 d3 d4 d5 v0 (va x) v2 v3 (ptr p) v5) w'') → Owp P o6 (Pf A d0 d1 d2 d3 d4 d5 v0 (va x) v2 v3 (ptr p) v5) w' K Q)
    (h7 : ∀ A, E A → ∀ x p v0 v1 v2 v4 w' (K : Act → World → Prop), RB x → w'.heap[p]? = some Z → (∀ w'', w''.heap[p]? = some (ob x) → (∀ r, r ≠ p → w''.heap[r]? = w'.heap[r]?) → (∀ B, B ≤ p → Below B w' w'') → K (Pf A d0 d1 d2 d3 d4 d5 v0 v1 v2 (vb x) v4 (ptr p)) w'') → Owp P o7 (Pf A d0 d1 d2 d3 d4 d5 v0 v1 v2 (vb x) v4 (ptr p)) w' K Q)
    (fin : ∀ xa xb p q w', RA xa → RB xb → Ext w w' → w.heap.size ≤ p → w.heap.size ≤ q → q ≠ p → w'.heap[p]? = some (oa xa) → w'.heap[q]? = some (ob xb) → Q .normal (Pf a d0 d1 d2 d3 d4 d5 X (va xa) Y (vb xb) (ptr p) (ptr q)) w') :
    (Code.region id [o0, o1, o2, o3, o4, o5, o6, o7].toArray true).wp P Q a w :=
  pair_region (Pf a d0 d1 d2 d3 d4 d5) u0 u1 u2 u3 u4 u5 X Y va vb RA RB Z oa ob hm ha hB (h0 a hE) (h1 a hE) (h2 a hE) (h3 a hE) (h4 a hE) (h5 a hE) (h6 a hE) (h7 a hE) fin
theorem Pf_eval {a : Act} {d0 d1 d2 d3 d4 d5 : Nat} (hd : [d0, d1, d2, d3, d4, d5].Nodup) (hs : ∀ d ∈ [d0, d1, d2, d3, d4, d5], d < a.tmps.size) (v0 v1 v2 v3 v4 v5 : Value) :
    (Pf a d0 d1 d2 d3 d4 d5 v0 v1 v2 v3 v4 v5).eval (.tmp d0) = v0 ∧ (Pf a d0 d1 d2 d3 d4 d5 v0 v1 v2 v3 v4 v5).eval (.tmp d1) = v1 ∧ (Pf a d0 d1 d2 d3 d4 d5 v0 v1 v2 v3 v4 v5).eval (.tmp d2) = v2 ∧
    (Pf a d0 d1 d2 d3 d4 d5 v0 v1 v2 v3 v4 v5).eval (.tmp d3) = v3 ∧ (Pf a d0 d1 d2 d3 d4 d5 v0 v1 v2 v3 v4 v5).eval (.tmp d4) = v4 ∧ (Pf a d0 d1 d2 d3 d4 d5 v0 v1 v2 v3 v4 v5).eval (.tmp d5) = v5 := by
  simp only [List.nodup_cons, List.mem_cons, List.not_mem_nil, or_false, not_or, not_false_eq_true, List.nodup_nil, and_true] at hd
  obtain ⟨⟨n1, n2, n3, n4, n5⟩, ⟨n6, n7, n8, n9⟩, ⟨n10, n11, n12⟩, ⟨n13, n14⟩, n15⟩ := hd
  simp only [List.mem_cons, List.not_mem_nil, or_false, forall_eq_or_imp, forall_eq] at hs
  obtain ⟨s0, s1, s2, s3, s4, s5⟩ := hs
  unfold Pf Act.eval
  simp [Array.getElem?_setIfInBounds, *, Ne.symm n1, Ne.symm n2, Ne.symm n3, Ne.symm n4, Ne.symm n5, Ne.symm n6, Ne.symm n7, Ne.symm n8, Ne.symm n9, Ne.symm n10, Ne.symm n11, Ne.symm n12, Ne.symm n13, Ne.symm n14, Ne.symm n15]
theorem Pf_eval_ne {a : Act} {d0 d1 d2 d3 d4 d5 k : Nat} (hk : k ∉ [d0, d1, d2, d3, d4, d5]) (v0 v1 v2 v3 v4 v5 : Value) :
    (Pf a d0 d1 d2 d3 d4 d5 v0 v1 v2 v3 v4 v5).eval (.tmp k) = a.eval (.tmp k) := by
  simp only [List.mem_cons, List.not_mem_nil, or_false, not_or] at hk
  obtain ⟨n0, n1, n2, n3, n4, n5⟩ := hk
  unfold Pf Act.eval
  simp [Array.getElem?_setIfInBounds, Ne.symm n0, Ne.symm n1, Ne.symm n2, Ne.symm n3, Ne.symm n4, Ne.symm n5]
end Go.Proofs.Ytgkdeknfmmgbdaa.Pr
