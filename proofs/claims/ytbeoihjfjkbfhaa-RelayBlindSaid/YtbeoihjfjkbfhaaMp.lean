/-
  Maps that a call makes, as lists of pairs whose keys differ: look-up, store, length, at the operation. Nothing is asked.
-/
import Derived.Test.YtbeoihjfjkbfhaaBase
import Derived.Maps.OwnSet
import Derived.Maps.RangeWalk
namespace Go.Proofs.Ytbeoihjfjkbfhaa
set_option linter.unusedVariables false
set_option linter.unusedSimpArgs false
open Go.RowKit Go.MapKept Go.ChangeMaps
open Go.Maps (Keyed)

/-- How keys of a type are written. -/
structure KE {κ : Type} (P : Program) (k : TypeId) (enc : κ → Value) (good : κ → Prop) : Prop where
  keyed : Keyed P k
  inj : ∀ a b, enc a = enc b → a = b
  lit : ∀ a, good a → ∃ l, keyOf P k (enc a) = some l

section
variable {κ : Type}
/-- Block b is a map of the pairs l. -/
def MP (enc : κ → Value) (good : κ → Prop) (w : World) (b : Nat) (l : List (κ × Value)) : Prop :=
  (∀ p ∈ l, good p.1) ∧ (l.map (·.1)).Nodup ∧ ∃ es clock, w.heap[b]? = some (.map es clock) ∧ es.toList.map (fun e => (e.key, e.val)) = l.map (fun p => (enc p.1, p.2)) ∧ MapKept.Stamped es clock

variable {enc : κ → Value} {good : κ → Prop} {P : Program} {k e t : TypeId} {w w' : World} {b : Nat} {l : List (κ × Value)}

theorem MP.nodup (h : MP enc good w b l) : (l.map (·.1)).Nodup := h.2.1
theorem MP.gd (h : MP enc good w b l) : ∀ p ∈ l, good p.1 := h.1
theorem MP.lt (h : MP enc good w b l) : b < w.heap.size := by
  obtain ⟨-, -, es, clock, hb, -, -⟩ := h
  exact (Array.getElem?_eq_some_iff.1 hb).1
theorem MP.of_block (h : MP enc good w b l) (hb : w'.heap[b]? = w.heap[b]?) : MP enc good w' b l := by
  obtain ⟨h1, h2, es, clock, h3, h4⟩ := h
  exact ⟨h1, h2, es, clock, hb.trans h3, h4⟩
theorem MP.ext (h : MP enc good w b l) (x : Ext w w') : MP enc good w' b l := h.of_block (x.block _ h.lt)
theorem MP.below {B : Nat} (h : MP enc good w b l) (x : Below B w w') (hb : b < B) : MP enc good w' b l := h.of_block (x.block _ hb)
theorem MP.kept {row : Option Nat} (h : MP enc good w b l) (x : w.grownBy w' row) (hne : some b ≠ row) : MP enc good w' b l := h.of_block (x.block b h.lt hne)
theorem MP.made (w : World) : MP enc good (w.alloc (.map #[] 0)) w.heap.size [] := ⟨by simp, by simp, #[], 0, (MapKept.heap_alloc w _).1, by simp, MapKept.stamped_empty _⟩
theorem MP.setCell (h : MP enc good w b l) {a : Addr} (ha : b ≠ a.block) (u : Value) : MP enc good (w.setCell a u) b l := h.of_block (RowKit.Below.heap_setCell _ _ _ _ ha)

/-- A look-up in a nil map. -/
theorem look_nil (K : KE P k enc good) (ht : P.underlying t = some (.map k e)) {z : Value} (hz : (zeroValue e).run P w = .ok z w) {x : κ} (hx : good x) (c : Bool) :
    (Instr.lookup t (.map none) (enc x) c).run P w = .ok (if c then .tuple #[z, .bool false] else z) w := by
  obtain ⟨li, hli⟩ := K.lit x hx
  rcases K.keyed.find w hli [] (by simp) with ⟨hf, -⟩ | ⟨j, e, -, h2, -⟩
  · simp [Instr.lookup, run_underlying ht, K.keyed.check w _ hli, hf, hz, Result.andThen]
  · simp at h2

/-- 'len(m)'. -/
theorem MP.len (h : MP enc good w b l) (ht : P.underlying t = some (.map k e)) (ty : TypeId) : (Builtin.len_ #[t] ty #[.map (some b)]).run P w = .ok (.int .i64 l.length) w := by
  obtain ⟨h1, h2, es, clock, hb, hes, hst⟩ := h
  have : es.size = l.length := by have := congrArg List.length hes; simpa using this
  simp [Builtin.len_, run_underlying ht, MapKept.run_getObj_map hb, goInt, Result.andThen, this]

theorem wpList_len {ops : Array Oper} {rest : List Oper} {o : Oper} {a : Act} {Q : Exit → Act → World → Prop} (hg : o.guard = none) (m : Operand) (t : TypeId) (hop : o.op = Op.call { callee := Callee.builtin Builtin.len, args := #[m], argTypes := #[t] }) (k e : TypeId) (ht : P.underlying t = some (.map k e))
    (b : Nat) (l : List (κ × Value)) (hm : a.eval m = .map (some b)) (h : MP enc good w b l) (hK : wpList P ops Q rest (a.put o.dst (.int .i64 l.length)) w) : wpList P ops Q (o :: rest) a w := by
  refine wpList_plain hg fun K' hK' => ?_
  unfold Oper.wp
  simp [execOp, hop, resolve, invoke, builtin, hm, h.len ht o.type, Result.andThen]
  exact hK' _ _ hK
theorem entries_keyed (K : KE P k enc good) {es : Array MapEntry} (hg : ∀ p ∈ l, good p.1) (hes : es.toList.map (fun e => (e.key, e.val)) = l.map (fun p => (enc p.1, p.2))) : ∀ e ∈ es.toList, ∃ l, keyOf P k e.key = some l := by
  intro e he
  have : (e.key, e.val) ∈ es.toList.map (fun e => (e.key, e.val)) := List.mem_map.2 ⟨e, he, rfl⟩
  rw [hes] at this
  obtain ⟨p, hp, hpe⟩ := List.mem_map.1 this
  obtain ⟨li, hli⟩ := K.lit p.1 (hg p hp)
  refine ⟨li, ?_⟩
  have h1 : enc p.1 = e.key := congrArg Prod.fst hpe
  rw [← h1]
  exact hli


/-- A loop over a map under way: block b is the map of the pairs l, block r its iterator, and left is what is still to come. -/
def RG (enc : κ → Value) (good : κ → Prop) (w : World) (b r : Nat) (l left : List (κ × Value)) : Prop :=
  MP enc good w b l ∧ (∀ p ∈ left, p ∈ l) ∧ ∃ es clock since seen c0, w.heap[b]? = some (.map es clock) ∧ w.heap[r]? = some (.mapIter (some b) since seen c0) ∧ (∀ x ∈ es.toList, x.born < since) ∧ since ≤ c0 ∧ since ≤ clock ∧
    (leftOf es seen).toList.map (fun e => (e.key, e.val)) = left.map (fun p => (enc p.1, p.2))
theorem RG.mp {r : Nat} {left : List (κ × Value)} (h : RG enc good w b r l left) : MP enc good w b l := h.1
theorem RG.lt {r : Nat} {left : List (κ × Value)} (h : RG enc good w b r l left) : r < w.heap.size := by
  obtain ⟨-, -, es, clock, since, seen, c0, hb, hr, -⟩ := h
  exact (Array.getElem?_eq_some_iff.1 hr).1
theorem RG.of_blocks {r : Nat} {left : List (κ × Value)} (h : RG enc good w b r l left) (hb : w'.heap[b]? = w.heap[b]?) (hr : w'.heap[r]? = w.heap[r]?) : RG enc good w' b r l left := by
  obtain ⟨h1, h2, es, clock, since, seen, c0, h3, h4, h5⟩ := h
  exact ⟨h1.of_block hb, h2, es, clock, since, seen, c0, hb.trans h3, hr.trans h4, h5⟩
theorem RG.ext {r : Nat} {left : List (κ × Value)} (h : RG enc good w b r l left) (x : Ext w w') : RG enc good w' b r l left := h.of_blocks (x.block _ h.1.lt) (x.block _ h.lt)
theorem RG.kept {r : Nat} {left : List (κ × Value)} {row : Option Nat} (h : RG enc good w b r l left) (x : w.grownBy w' row) (hb : some b ≠ row) (hr : some r ≠ row) : RG enc good w' b r l left := h.of_blocks (x.block b h.1.lt hb) (x.block r h.lt hr)

/-- 'range m'. -/
theorem MP.range (h : MP enc good w b l) (ht : P.underlying t = some (.map k e)) :
    ∃ w', (Instr.range t (.map (some b))).run P w = .ok (.pointer (some ⟨w.heap.size, 0, none⟩)) w' ∧ RG enc good w' b w.heap.size l l ∧ Ext w w' ∧ w'.heap.size = w.heap.size + 1 := by
  have h0 := h
  obtain ⟨h1, h2, es, clock, hb, hes, hst⟩ := h
  have hst' := (MapKept.stamped_iff es clock).1 hst
  refine ⟨_, run_range_map w t k e b es clock ht hb, ⟨h0.ext (Ext.alloc (Ext.refl _) _), fun p hp => hp, es, clock, clock, #[], clock, ((MapKept.heap_alloc w _).2 b h0.lt).trans hb, (MapKept.heap_alloc w _).1, hst'.1, Nat.le_refl _, Nat.le_refl _, ?_⟩, Ext.alloc (Ext.refl _) _, by simp⟩
  rw [← hes]
  simp only [leftOf, Array.toList_filter]
  rw [List.filter_eq_self.2 (by simp)]

theorem RG.left_eq {r : Nat} {left : List (κ × Value)} (h : RG enc good w b r l left) : w.rangeLeft b r = left.length := by
  obtain ⟨-, -, es, clock, since, seen, c0, hb, hr, -, -, -, hl⟩ := h
  simp only [World.rangeLeft, hb, hr]
  have := congrArg List.length hl
  simpa using this
theorem map_split {α β γ : Type} {f : α → γ} {g : β → γ} : ∀ {l : List α} {m : List β}, l.map f = m.map g → ∀ {pre post : List α} {x : α}, l = pre ++ x :: post → ∃ pre' y post', m = pre' ++ y :: post' ∧ f x = g y ∧ pre.map f = pre'.map g ∧ post.map f = post'.map g
  | l, m, h, [], post, x, e => by
    subst e
    cases m with
    | nil => simp at h
    | cons y m =>
      simp only [List.nil_append, List.map_cons, List.cons.injEq] at h
      exact ⟨[], y, m, rfl, h.1, rfl, h.2⟩
  | l, m, h, a :: pre, post, x, e => by
    subst e
    cases m with
    | nil => simp at h
    | cons y m =>
      simp only [List.cons_append, List.map_cons, List.cons.injEq] at h
      obtain ⟨pre', z, post', h1, h2, h3, h4⟩ := map_split h.2 (pre := pre) (post := post) (x := x) rfl
      exact ⟨y :: pre', z, post', by rw [h1]; rfl, h2, by simp [h.1, h3], h4⟩
theorem filter_drop {α : Type} (p q : α → Bool) : ∀ {l : List α} {pre post : List α} {x : α}, l = pre ++ x :: post → q x = false → (∀ y ∈ pre, q y = true) → (∀ y ∈ post, q y = true) → l.filter q = pre ++ post := by
  intro l pre post x e hx h1 h2
  subst e
  rw [List.filter_append, List.filter_cons, hx, List.filter_eq_self.2 h1, List.filter_eq_self.2 h2]
  simp

/-- The step of a loop over a map. -/
theorem RG.next {r : Nat} {left : List (κ × Value)} (h : RG enc good w b r l left) (ty : TypeId) :
    (left = [] ∧ (Instr.next (.pointer (some ⟨r, 0, none⟩)) false ty).run P w = .ok (.tuple #[.bool false]) w) ∨
    ∃ pre x v post w', left = pre ++ (x, v) :: post ∧ (Instr.next (.pointer (some ⟨r, 0, none⟩)) false ty).run P w = .ok (.tuple #[.bool true, enc x, v]) w' ∧
      RG enc good w' b r l (pre ++ post) ∧ w.grownBy w' (some r) ∧ w'.heap.size = w.heap.size ∧ (Instr.entry (.pointer (some ⟨r, 0, none⟩))).run P w' = .ok (.tuple #[enc x, v]) w' := by
  obtain ⟨hm, hin, es, clock, since, seen, c0, hb, hr, hold, hsc, hsk, hl⟩ := h
  have hne : r ≠ b := by
    intro e
    rw [e, hb] at hr
    cases hr
  obtain ⟨-, -, es', clock', hb0, hes, hst⟩ := id hm
  rw [hb] at hb0
  injection hb0 with hb0
  injection hb0 with hb1 hb2
  subst hb1 hb2
  have hst' := (MapKept.stamped_iff es clock).1 hst
  rcases run_next_at (P := P) w ty r b since c0 seen es clock hr hb hold hsc with ⟨h0, hrun⟩ | ⟨e, he, w1, hal, hrun⟩
  · refine .inl ⟨?_, hrun⟩
    have : (leftOf es seen).toList = [] := by rw [← List.length_eq_zero_iff]; simpa using h0
    rw [this] at hl
    simpa using hl.symm
  · obtain ⟨hem, hes0⟩ := mem_left he
    obtain ⟨pre, post, hpp⟩ := List.append_of_mem he
    obtain ⟨pre', y, post', hl', hy, hpre, hpost⟩ := map_split hl hpp
    obtain ⟨x, v⟩ := y
    simp only [Prod.mk.injEq] at hy
    have hr1 : w1.heap[r]? = some (.mapIter (some b) since seen c0) := by rcases hal with rfl | rfl <;> exact hr
    have hb1 : w1.heap[b]? = some (.map es clock) := by rcases hal with rfl | rfl <;> exact hb
    have hset := heap_set (o' := .mapIter (some b) since (seen.push e.born) clock) hr1
    have hb' : (setBlock w1 r (.mapIter (some b) since (seen.push e.born) clock)).heap[b]? = some (.map es clock) := (hset.2 b (fun e1 => hne e1.symm)).trans hb1
    have hent := run_entry_at (P := P) _ r b since seen es clock e hset.1 hb' hem hst'.2.1
    rw [hy.1, hy.2] at hrun hent
    refine .inr ⟨pre', x, v, post', _, hl', hrun, ⟨hm.of_block (hb'.trans hb.symm), fun p hp => hin p ?_, es, clock, since, seen.push e.born, clock, hb', hset.1, hold, hsk, hsk, ?_⟩, ?_, ?_, hent⟩
    · rw [hl']
      rcases List.mem_append.1 hp with hp | hp
      · exact List.mem_append_left _ hp
      · exact List.mem_append_right _ (List.mem_cons_of_mem _ hp)
    · have hnd : ((leftOf es seen).toList.map (·.born)).Nodup := by
        unfold leftOf
        rw [Array.toList_filter]
        exact (List.Sublist.map _ List.filter_sublist).nodup hst'.2.1
      rw [hpp, List.map_append, List.map_cons] at hnd
      have hfl : (leftOf es (seen.push e.born)).toList = (leftOf es seen).toList.filter (fun z => !(z.born == e.born)) := by
        unfold leftOf
        rw [Array.toList_filter, Array.toList_filter, List.filter_filter]
        apply List.filter_congr
        intro z _
        rw [contains_push]
        cases seen.contains z.born <;> cases (z.born == e.born) <;> rfl
      rw [List.nodup_append, List.nodup_cons] at hnd
      rw [hfl, filter_drop (fun _ => true) _ hpp (by simp) (fun z hz => ?_) (fun z hz => ?_), List.map_append, List.map_append, hpre, hpost]
      · have := hnd.2.2 z.born (List.mem_map.2 ⟨z, hz, rfl⟩) e.born List.mem_cons_self
        simpa using this
      · have : z.born ≠ e.born := fun e1 => hnd.2.1.1 (by rw [← e1]; exact List.mem_map.2 ⟨z, hz, rfl⟩)
        simpa using this
    · rcases hal with rfl | rfl <;> exact ⟨rfl, rfl, rfl, by simp [setBlock], fun i _ hi => hset.2 i (fun e1 => hi (by rw [e1]))⟩
    · rcases hal with rfl | rfl <;> simp [setBlock]

section
variable {ops : Array Oper} {rest : List Oper} {o : Oper} {a : Act} {Q : Exit → Act → World → Prop}
theorem wpList_range (hg : o.guard = none) (m : Operand) (t : TypeId) (hop : o.op = Op.range t m) (k e : TypeId) (ht : P.underlying t = some (.map k e))
    (b : Nat) (l : List (κ × Value)) (hm : a.eval m = .map (some b)) (h : MP enc good w b l)
    (hK : ∀ w', RG enc good w' b w.heap.size l l → Ext w w' → w'.heap.size = w.heap.size + 1 → wpList P ops Q rest (a.put o.dst (.pointer (some ⟨w.heap.size, 0, none⟩))) w') : wpList P ops Q (o :: rest) a w := by
  refine wpList_plain hg fun K' hK' => ?_
  obtain ⟨w', hrun, r1, r2, r3⟩ := h.range ht
  unfold Oper.wp
  simp [execOp, hop, hm, hrun, Result.andThen]
  exact hK' _ _ (hK w' r1 r2 r3)
theorem wpList_next (hg : o.guard = none) (it : Operand) (hop : o.op = Op.next it false) (b r : Nat) (l left : List (κ × Value)) (hit : a.eval it = .pointer (some ⟨r, 0, none⟩)) (h : RG enc good w b r l left)
    (hDone : left = [] → wpList P ops Q rest (a.put o.dst (.tuple #[.bool false])) w)
    (hMore : ∀ pre x v post w', left = pre ++ (x, v) :: post → RG enc good w' b r l (pre ++ post) → w.grownBy w' (some r) → w'.heap.size = w.heap.size → (Instr.entry (.pointer (some ⟨r, 0, none⟩))).run P w' = .ok (.tuple #[enc x, v]) w' → wpList P ops Q rest (a.put o.dst (.tuple #[.bool true, enc x, v])) w') : wpList P ops Q (o :: rest) a w := by
  refine wpList_plain hg fun K' hK' => ?_
  unfold Oper.wp
  rcases h.next (P := P) o.type with ⟨h0, hrun⟩ | ⟨pre, x, v, post, w', h1, hrun, h2, h3, h4, h5⟩
  · simp [execOp, hop, hit, hrun, Result.andThen]
    exact hK' _ _ (hDone h0)
  · simp [execOp, hop, hit, hrun, Result.andThen]
    exact hK' _ _ (hMore pre x v post w' h1 h2 h3 h4 h5)
end

end

section
variable {κ : Type} [DecidableEq κ]

/-- The store of an element. -/
def putL (l : List (κ × Value)) (x : κ) (v : Value) : List (κ × Value) :=
  if x ∈ l.map (·.1) then l.map (fun p => if p.1 = x then (x, v) else p) else l ++ [(x, v)]

theorem putL_keys (l : List (κ × Value)) (x : κ) (v : Value) : (putL l x v).map (·.1) = if x ∈ l.map (·.1) then l.map (·.1) else l.map (·.1) ++ [x] := by
  unfold putL
  split
  · rw [List.map_map]
    apply List.map_congr_left
    intro p _
    by_cases h : p.1 = x <;> simp [h]
  · simp
theorem putL_nodup {l : List (κ × Value)} (h : (l.map (·.1)).Nodup) (x : κ) (v : Value) : ((putL l x v).map (·.1)).Nodup := by
  rw [putL_keys]
  split
  · exact h
  · rename_i hx
    rw [List.nodup_append]
    refine ⟨h, List.nodup_cons.2 ⟨by simp, List.nodup_nil⟩, fun a ha b hb e => ?_⟩
    rw [List.mem_singleton] at hb
    exact hx (hb ▸ e ▸ ha)
theorem lookup_none {l : List (κ × Value)} {x : κ} : l.lookup x = none ↔ x ∉ l.map (·.1) := by
  induction l with
  | nil => simp
  | cons p l ih =>
    obtain ⟨k, v⟩ := p
    by_cases h : x = k
    · subst h; simp
    · have hb : (x == k) = false := by simpa using h
      simp only [List.lookup_cons, hb, List.map_cons, List.mem_cons, h, false_or]
      exact ih
theorem lookup_mem {l : List (κ × Value)} {x : κ} {v : Value} (h : l.lookup x = some v) : (x, v) ∈ l := by
  induction l with
  | nil => simp at h
  | cons p l ih =>
    obtain ⟨k, u⟩ := p
    by_cases hx : x = k
    · subst hx
      simp at h
      simp [h]
    · have hb : (x == k) = false := by simpa using hx
      rw [List.lookup_cons, hb] at h
      exact List.mem_cons_of_mem _ (ih h)
theorem mem_lookup {l : List (κ × Value)} (hn : (l.map (·.1)).Nodup) {x : κ} {v : Value} (h : (x, v) ∈ l) : l.lookup x = some v := by
  induction l with
  | nil => simp at h
  | cons p l ih =>
    obtain ⟨k, u⟩ := p
    rw [List.map_cons, List.nodup_cons] at hn
    rcases List.mem_cons.1 h with e | h'
    · cases e; simp
    · have hx : x ≠ k := fun e => hn.1 (e ▸ List.mem_map.2 ⟨_, h', rfl⟩)
      have hb : (x == k) = false := by simpa using hx
      rw [List.lookup_cons, hb]
      exact ih hn.2 h'
theorem lookup_append (l m : List (κ × Value)) (x : κ) : (l ++ m).lookup x = (l.lookup x).or (m.lookup x) := by
  induction l with
  | nil => simp
  | cons p l ih =>
    obtain ⟨k, u⟩ := p
    by_cases h : (x == k) = true
    · simp [List.lookup_cons, h]
    · have hb : (x == k) = false := by simpa using h
      rw [List.cons_append, List.lookup_cons, List.lookup_cons, hb]
      exact ih
theorem lookup_map_ne (l : List (κ × Value)) (x : κ) (v : Value) (y : κ) (h : y ≠ x) : (l.map (fun p => if p.1 = x then (x, v) else p)).lookup y = l.lookup y := by
  induction l with
  | nil => rfl
  | cons p l ih =>
    obtain ⟨k, u⟩ := p
    rw [List.map_cons]
    by_cases hk : k = x
    · subst hk
      have hb : (y == k) = false := by simpa using h
      simp only [if_true, List.lookup_cons, hb]
      exact ih
    · simp only [hk, if_false, List.lookup_cons, ih]
theorem lookup_map_eq (l : List (κ × Value)) (x : κ) (v : Value) (h : x ∈ l.map (·.1)) : (l.map (fun p => if p.1 = x then (x, v) else p)).lookup x = some v := by
  induction l with
  | nil => simp at h
  | cons p l ih =>
    obtain ⟨k, u⟩ := p
    rw [List.map_cons]
    by_cases hk : k = x
    · subst hk; simp
    · have hb : (x == k) = false := by simpa using fun e => hk e.symm
      simp only [hk, if_false, List.lookup_cons, hb]
      refine ih ?_
      rw [List.map_cons, List.mem_cons] at h
      exact h.resolve_left (fun e => hk e.symm)
theorem lookup_put (l : List (κ × Value)) (x : κ) (v : Value) (y : κ) : (putL l x v).lookup y = if y = x then some v else l.lookup y := by
  unfold putL
  split
  · rename_i hx
    by_cases h : y = x
    · rw [if_pos h, h, lookup_map_eq l x v hx]
    · rw [if_neg h, lookup_map_ne l x v y h]
  · rename_i hx
    rw [lookup_append]
    by_cases h : y = x
    · rw [if_pos h, h, lookup_none.2 hx]; simp
    · have hb : (y == x) = false := by simpa using h
      rw [if_neg h]
      cases hl : l.lookup y <;> simp [List.lookup_cons, hb]

variable {enc : κ → Value} {good : κ → Prop} {P : Program} {k e t : TypeId} {w w' : World} {b : Nat} {l : List (κ × Value)}

theorem MP.find (K : KE P k enc good) (h : MP enc good w b l) {x : κ} (hx : good x) {es : Array MapEntry} (hes : es.toList.map (fun e => (e.key, e.val)) = l.map (fun p => (enc p.1, p.2))) :
    ((Instr.findKey k (enc x) es.toList).run P w = .ok none w ∧ l.lookup x = none) ∨
    ∃ (j : Nat) (v : Value), (Instr.findKey k (enc x) es.toList).run P w = .ok (some (j, v)) w ∧ l.lookup x = some v ∧ ∃ e, es.toList[j]? = some e ∧ e.key = enc x ∧ e.val = v ∧ l[j]? = some (x, v) := by
  obtain ⟨li, hli⟩ := K.lit x hx
  rcases K.keyed.find w hli es.toList (entries_keyed K h.gd hes) with ⟨h1, h2⟩ | ⟨j, e, h1, h2, h3⟩
  · refine .inl ⟨h1, lookup_none.2 fun hm => ?_⟩
    obtain ⟨p, hp, hpx⟩ := List.mem_map.1 hm
    have : (enc p.1, p.2) ∈ es.toList.map (fun e => (e.key, e.val)) := by rw [hes]; exact List.mem_map.2 ⟨p, hp, rfl⟩
    obtain ⟨e, he, hpe⟩ := List.mem_map.1 this
    have h3 : e.key = enc p.1 := congrArg Prod.fst hpe
    rw [hpx] at h3
    exact h2 e he h3
  · have h4 : (es.toList.map (fun e => (e.key, e.val)))[j]? = some (e.key, e.val) := by rw [List.getElem?_map, h2]; rfl
    rw [hes, List.getElem?_map] at h4
    cases hl : l[j]? with
    | none => rw [hl] at h4; simp at h4
    | some p =>
      rw [hl] at h4
      simp only [Option.map_some, Option.some.injEq, Prod.mk.injEq] at h4
      obtain ⟨k1, v1⟩ := p
      have hk : k1 = x := K.inj _ _ (h4.1.trans h3)
      subst hk
      have hv : v1 = e.val := h4.2
      subst hv
      exact .inr ⟨j, e.val, h1, mem_lookup h.nodup (List.mem_of_getElem? hl), e, h2, h3, rfl, hl⟩

/-- 'm[k]' and 'v, ok := m[k]'. -/
theorem MP.look (K : KE P k enc good) (ht : P.underlying t = some (.map k e)) {z : Value} (hz : (zeroValue e).run P w = .ok z w) (h : MP enc good w b l) {x : κ} (hx : good x) (c : Bool) :
    (Instr.lookup t (.map (some b)) (enc x) c).run P w = .ok (if c then .tuple #[(l.lookup x).getD z, .bool (l.lookup x).isSome] else (l.lookup x).getD z) w := by
  have h0 := h
  obtain ⟨h1, h2, es, clock, hb, hes, hst⟩ := h
  obtain ⟨li, hli⟩ := K.lit x hx
  rcases MP.find K h0 hx hes with ⟨hf, hl⟩ | ⟨j, v, hf, hl, -⟩
  · simp [Instr.lookup, run_underlying ht, MapKept.run_getObj_map hb, K.keyed.check w _ hli, hf, hl, hz, Result.andThen]
  · simp [Instr.lookup, run_underlying ht, MapKept.run_getObj_map hb, K.keyed.check w _ hli, hf, hl, Result.andThen]

theorem modify_toList (es : Array MapEntry) (j : Nat) (f : MapEntry → MapEntry) : (es.modify j f).toList = es.toList.modify j f := by simp

theorem map_modify_key {l : List (κ × Value)} (hn : (l.map (·.1)).Nodup) {j : Nat} {x : κ} {v0 : Value} (hj : l[j]? = some (x, v0)) (v : Value) : l.set j (x, v) = l.map (fun p => if p.1 = x then (x, v) else p) := by
  apply List.ext_getElem?
  intro i
  rw [List.getElem?_set, List.getElem?_map]
  by_cases hi : j = i
  · subst hi
    have hlt := (List.getElem?_eq_some_iff.1 hj).1
    rw [if_pos rfl, if_pos hlt, hj]
    simp
  · rw [if_neg hi]
    cases hl : l[i]? with
    | none => rfl
    | some p =>
      have hne : p.1 ≠ x := by
        intro e
        have h1 : (l.map (·.1))[i]? = some x := by rw [List.getElem?_map, hl]; simp [e]
        have h2 : (l.map (·.1))[j]? = some x := by rw [List.getElem?_map, hj]; rfl
        have hlt := (List.getElem?_eq_some_iff.1 h1).1
        exact hi ((List.getElem?_inj hlt hn).1 (h1.trans h2.symm)).symm
      simp [hne]

/-- 'm[k] = v'. -/
theorem MP.update (K : KE P k enc good) (ht : P.underlying t = some (.map k e)) (h : MP enc good w b l) {x : κ} (hx : good x) (v : Value) :
    ∃ w', (Instr.mapUpdate t (.map (some b)) (enc x) v).run P w = .ok () w' ∧ MP enc good w' b (putL l x v) ∧ w.grownBy w' (some b) := by
  have h0 := h
  obtain ⟨h1, h2, es, clock, hb, hes, hst⟩ := h
  obtain ⟨li, hli⟩ := K.lit x hx
  rcases MP.find K h0 hx hes with ⟨hf, hl⟩ | ⟨j, v0, hf, hl, e0, hj, hek, hev, hlj⟩
  · have hm := lookup_none.1 hl
    refine ⟨setBlock w b (.map (es.push { key := enc x, val := v, born := clock }) (clock + 1)), ?_, ⟨?_, putL_nodup h2 x v, _, _, heap_setBlock_same hb _, ?_, MapKept.stamped_push hst (fun y hy e => ?_)⟩, ⟨rfl, rfl, rfl, by simp [setBlock], fun i _ hi => heap_setBlock_other hb _ (fun e => hi (by rw [e]))⟩⟩
    · simp [Instr.mapUpdate, run_underlying ht, MapKept.run_getObj_map hb, K.keyed.check w _ hli, hf, Result.andThen]
      exact MapKept.run_setObj_map _ hb
    · intro p hp
      unfold putL at hp
      rw [if_neg hm] at hp
      rcases List.mem_append.1 hp with hp | hp
      · exact h1 p hp
      · rw [List.mem_singleton] at hp; subst hp; exact hx
    · unfold putL
      rw [if_neg hm]
      simp [hes]
    · have h3 : (y.key, y.val) ∈ es.toList.map (fun e => (e.key, e.val)) := List.mem_map.2 ⟨y, hy, rfl⟩
      rw [hes] at h3
      obtain ⟨p, hp, hpe⟩ := List.mem_map.1 h3
      exact hm (List.mem_map.2 ⟨p, hp, K.inj _ _ ((congrArg Prod.fst hpe).trans e)⟩)
  · have hm : x ∈ l.map (·.1) := List.mem_map.2 ⟨(x, v0), List.mem_of_getElem? hlj, rfl⟩
    refine ⟨setBlock w b (.map (es.modify j fun e => { e with key := enc x, val := v }) clock), ?_, ⟨?_, putL_nodup h2 x v, _, _, heap_setBlock_same hb _, ?_, MapKept.stamped_modify hst j _ (fun _ _ => rfl) (fun y hy hyj => ?_)⟩, ⟨rfl, rfl, rfl, by simp [setBlock], fun i _ hi => heap_setBlock_other hb _ (fun e => hi (by rw [e]))⟩⟩
    · have hj' : es[j]? = some e0 := by rw [← Array.getElem?_toList]; exact hj
      simp [Instr.mapUpdate, run_underlying ht, MapKept.run_getObj_map hb, K.keyed.check w _ hli, hf, hj', hek, K.keyed.stays w hli, Result.andThen]
      exact MapKept.run_setObj_map _ hb
    · intro p hp
      unfold putL at hp
      rw [if_pos hm] at hp
      obtain ⟨q, hq, rfl⟩ := List.mem_map.1 hp
      by_cases hqx : q.1 = x
      · rw [if_pos hqx]; exact hx
      · rw [if_neg hqx]; exact h1 q hq
    · unfold putL
      rw [if_pos hm, ← map_modify_key h2 hlj v, modify_toList]
      apply List.ext_getElem?
      intro i
      have hi := congrArg (fun q => q[i]?) hes
      simp only [List.getElem?_map] at hi
      rw [List.getElem?_map, List.getElem?_map, List.getElem?_modify, List.getElem?_set]
      by_cases hij : j = i
      · subst hij
        have hlt := (List.getElem?_eq_some_iff.1 hlj).1
        simp [hj, hlt]
      · simp only [hij, if_false]
        rw [← hi]
        cases es.toList[i]? <;> simp
    · have hj' : es[j]? = some e0 := by rw [← Array.getElem?_toList]; exact hj
      rw [hj'] at hyj
      injection hyj with hyj
      rw [← hyj]
      exact hek.symm

section ops
variable {ops : Array Oper} {rest : List Oper} {o : Oper} {a : Act} {Q : Exit → Act → World → Prop}

theorem wpList_look_ok (hg : o.guard = none) (m x : Operand) (t : TypeId) (hop : o.op = Op.lookup t m x true) (k e : TypeId) (K : KE P k enc good) (ht : P.underlying t = some (.map k e)) (z : Value) (hz : (zeroValue e).run P w = .ok z w)
    (b : Nat) (l : List (κ × Value)) (hm : a.eval m = .map (some b)) (h : MP enc good w b l) (key : κ) (hx : a.eval x = enc key) (hgd : good key)
    (hK : wpList P ops Q rest (a.put o.dst (.tuple #[(l.lookup key).getD z, .bool (l.lookup key).isSome])) w) : wpList P ops Q (o :: rest) a w := by
  refine wpList_plain hg fun K' hK' => ?_
  have hrun := h.look K ht hz hgd true
  unfold Oper.wp
  simp [execOp, hop, hm, hx, hrun, Result.andThen]
  exact hK' _ _ hK
theorem wpList_look (hg : o.guard = none) (m x : Operand) (t : TypeId) (hop : o.op = Op.lookup t m x false) (k e : TypeId) (K : KE P k enc good) (ht : P.underlying t = some (.map k e)) (z : Value) (hz : (zeroValue e).run P w = .ok z w)
    (b : Nat) (l : List (κ × Value)) (hm : a.eval m = .map (some b)) (h : MP enc good w b l) (key : κ) (hx : a.eval x = enc key) (hgd : good key)
    (hK : wpList P ops Q rest (a.put o.dst ((l.lookup key).getD z)) w) : wpList P ops Q (o :: rest) a w := by
  refine wpList_plain hg fun K' hK' => ?_
  have hrun := h.look K ht hz hgd false
  unfold Oper.wp
  simp [execOp, hop, hm, hx, hrun, Result.andThen]
  exact hK' _ _ hK
theorem wpList_store (hg : o.guard = none) (m x v : Operand) (t : TypeId) (hop : o.op = Op.mapUpdate t m x v) (k e : TypeId) (K : KE P k enc good) (ht : P.underlying t = some (.map k e))
    (b : Nat) (l : List (κ × Value)) (hm : a.eval m = .map (some b)) (h : MP enc good w b l) (key : κ) (hx : a.eval x = enc key) (hgd : good key) (val : Value) (hv : a.eval v = val)
    (hK : ∀ w', MP enc good w' b (putL l key val) → w.grownBy w' (some b) → wpList P ops Q rest (a.put o.dst undef) w') : wpList P ops Q (o :: rest) a w := by
  refine wpList_plain hg fun K' hK' => ?_
  obtain ⟨w', hrun, r1, r2⟩ := h.update K ht hgd val
  unfold Oper.wp
  simp [execOp, hop, hm, hx, hv, hrun, Result.andThen]
  exact hK' _ _ (hK w' r1 r2)
end ops
end

/-- Keys that are ints. -/
theorem KE.int {P : Program} {k : TypeId} (hk : P.underlying k = some (.int .i64)) : KE P k (fun i : Int => Value.int .i64 i) (fun i => (Lit.int .i64 i).wf = true) :=
  ⟨Go.Maps.int_keyed hk, fun a b h => by injection h, fun a h => ⟨_, Go.Maps.keyOf_int_mk hk h⟩⟩

end Go.Proofs.Ytbeoihjfjkbfhaa
