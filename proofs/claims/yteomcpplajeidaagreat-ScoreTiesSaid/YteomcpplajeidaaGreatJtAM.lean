/-
  Lemmas of this claim (JtAM). Nothing is asked.
-/
import Derived.Test.YteomcpplajeidaaGreatJtAL
namespace Go.Proofs.YteomcpplajeidaaGreat.Rv
set_option linter.unusedVariables false
set_option linter.unusedSimpArgs false
set_option maxRecDepth 100000
open Go.RowKit Go.Proofs.YteomcpplajeidaaGreat Go.Proofs.YteomcpplajeidaaGreat.Ru
open Go.Proofs.YteomcpplajeidaaGreat.Rg (lt_of_heap)
def mv (p : List Nat) (o : Oper) : Oper := { o with after := o.after.map (fun e => { e with on := p.idxOf e.on }), guard := o.guard.map (fun g => (p.idxOf g.1, g.2)) }
def perm (p : List Nat) (ops : Array Oper) : Array Oper := (p.map fun i => mv p (ops.getD i default)).toArray
def permB (p : List Nat) (n : Nat) : Bool := decide (p.length = n) && p.all (fun i => decide (i < n)) && decide p.Nodup && (List.range n).all (fun i => p.contains i)
structure Perm (p : List Nat) (n : Nat) : Prop where
  len : p.length = n
  lt : ∀ i ∈ p, i < n
  nodup : p.Nodup
  all : ∀ i, i < n → i ∈ p
theorem permB_spec {p : List Nat} {n : Nat} (h : permB p n = true) : Perm p n := by
  simp only [permB, Bool.and_eq_true, decide_eq_true_eq, List.all_eq_true, List.mem_range, List.contains_iff_mem] at h
  exact ⟨h.1.1.1, h.1.1.2, h.1.2, h.2⟩
section
variable {p : List Nat} {n : Nat}
theorem Perm.idx_lt (h : Perm p n) {i : Nat} (hi : i < n) : p.idxOf i < n := by
  rw [← h.len]; exact List.idxOf_lt_length_of_mem (h.all i hi)
theorem Perm.idx_ge (h : Perm p n) {i : Nat} (hi : n ≤ i) : p.idxOf i = n := by
  rw [← h.len]; exact List.idxOf_eq_length (fun hm => by have := h.lt i hm; omega)
theorem Perm.get_idx (h : Perm p n) {i : Nat} (hi : i < n) : p[p.idxOf i]? = some i := by
  have h1 : p.idxOf i < p.length := by rw [h.len]; exact h.idx_lt hi
  rw [List.getElem?_eq_getElem h1, List.getElem_idxOf h1]
theorem Perm.inj (h : Perm p n) {i j : Nat} (hi : i < n) (hj : j < n) (e : p.idxOf i = p.idxOf j) : i = j := by
  have h1 := h.get_idx hi
  rw [e, h.get_idx hj] at h1
  exact (Option.some.inj h1).symm
theorem Perm.idx_get (h : Perm p n) {j : Nat} (hj : j < n) : ∃ i, i < n ∧ p[j]? = some i ∧ p.idxOf i = j := by
  have hj' : j < p.length := by rw [h.len]; exact hj
  have hlt := h.lt p[j] (List.getElem_mem hj')
  refine ⟨p[j], hlt, List.getElem?_eq_getElem hj', ?_⟩
  have h1 := h.get_idx hlt
  have h2 : p.idxOf p[j] < p.length := by rw [h.len]; exact h.idx_lt hlt
  rw [List.getElem?_eq_getElem h2] at h1
  exact (List.getElem_inj h.nodup).1 (Option.some.inj h1)
end
theorem mv_exec (p : List Nat) (o : Oper) (ρ : Operand → Value) : execOp ρ (mv p o) = execOp ρ o := rfl
section
variable {p : List Nat} {n : Nat} {ops : Array Oper} {md : Region.Mode} {P : Program} {Q : Exit → Act → World → Prop}
theorem get_perm (h : Perm p ops.size) {i : Nat} (hi : i < ops.size) : (perm p ops)[p.idxOf i]? = (ops[i]?).map (mv p) := by
  unfold perm
  rw [List.getElem?_toArray, List.getElem?_map, h.get_idx hi, Option.map_some, Array.getElem?_eq_getElem hi, Option.map_some]
  simp [Array.getD, hi]
theorem size_perm (h : Perm p ops.size) : (perm p ops).size = ops.size := by
  unfold perm; simp [h.len]
theorem yielded_perm (h : Perm p ops.size) (t : Array Value) (j : Nat) : yielded (perm p ops) t (p.idxOf j) = yielded ops t j := by
  unfold yielded
  rcases Nat.lt_or_ge j ops.size with hj | hj
  · rw [get_perm h hj]
    cases ops[j]? <;> rfl
  · rw [h.idx_ge hj, Array.getElem?_eq_none (by rw [size_perm h]; exact Nat.le_refl _), Array.getElem?_eq_none hj]
theorem wanted_perm (h : Perm p ops.size) (t : Array Value) (o : Oper) : Region.wanted (mv p o) (yielded (perm p ops) t) = Region.wanted o (yielded ops t) := by
  unfold Region.wanted mv
  cases o.guard with
  | none => rfl
  | some g => simp only [Option.map_some]; rw [yielded_perm h]
def Rl (p : List Nat) (n : Nat) (l l' : Array Bool) : Prop := l.size = n ∧ l'.size = n ∧ ∀ i, i < n → l'[p.idxOf i]? = l[i]?
theorem Rl.getD {l l' : Array Bool} (h : Perm p n) (r : Rl p n l l') (i : Nat) (b : Bool) : l'.getD (p.idxOf i) b = l.getD i b := by
  obtain ⟨h1, h2, h3⟩ := r
  rw [Array.getD_eq_getD_getElem?, Array.getD_eq_getD_getElem?]
  rcases Nat.lt_or_ge i n with hi | hi
  · rw [h3 i hi]
  · rw [h.idx_ge hi, Array.getElem?_eq_none (by omega), Array.getElem?_eq_none (by omega)]
theorem Rl.set {l l' : Array Bool} (h : Perm p n) (r : Rl p n l l') {i : Nat} (hi : i < n) : Rl p n (l.setIfInBounds i true) (l'.setIfInBounds (p.idxOf i) true) := by
  obtain ⟨h1, h2, h3⟩ := r
  refine ⟨by simpa using h1, by simpa using h2, fun k hk => ?_⟩
  rw [Array.getElem?_setIfInBounds, Array.getElem?_setIfInBounds]
  by_cases e : i = k
  · subst e
    have := h.idx_lt hi
    simp [h1, h2, hi, this]
  · have : p.idxOf i ≠ p.idxOf k := fun e' => e (h.inj hi hk e')
    rw [if_neg this, if_neg e, h3 k hk]
theorem ready_perm (h : Perm p ops.size) {l l' : Array Bool} (r : Rl p ops.size l l') {i : Nat} (hi : i < ops.size) : p.idxOf i ∈ Region.ready md (perm p ops) l' ↔ i ∈ Region.ready md ops l := by
  rw [mem_ready, mem_ready, r.getD h, get_perm h hi]
  refine and_congr_right fun _ => ?_
  cases ho : ops[i]? with
  | none => simp
  | some o =>
    simp only [Option.map_some, Option.some.injEq, exists_eq_left']
    constructor
    · intro h1 e he hb
      have := h1 { e with on := p.idxOf e.on } (by simp only [mv]; exact Array.mem_map.2 ⟨e, he, rfl⟩) hb
      rwa [r.getD h] at this
    · intro h1 e he hb
      simp only [mv] at he
      obtain ⟨e', he', rfl⟩ := Array.mem_map.1 he
      rw [r.getD h]
      exact h1 e' he' hb
theorem ready_lt {l : Array Bool} {i : Nat} (h : i ∈ Region.ready md ops l) : i < ops.size := by
  obtain ⟨_, o, ho, _⟩ := mem_ready.1 h
  exact (Array.getElem?_eq_some_iff.1 ho).1
theorem wpOp_perm (h : Perm p ops.size) {i : Nat} (hi : i < ops.size) {K : Act → World → Prop} {a : Act} {w : World} (hh : wpOp P (perm p ops) Q (p.idxOf i) K a w) : wpOp P ops Q i K a w := by
  unfold wpOp at *
  rw [get_perm h hi] at hh
  cases ho : ops[i]? with
  | none => rw [ho] at hh; exact hh
  | some o =>
    rw [ho] at hh
    simp only [Option.map_some] at hh ⊢
    rw [wanted_perm h] at hh
    exact hh
theorem wpAny_perm (h : Perm p ops.size) : ∀ (f : Nat) (l l' : Array Bool) (a : Act) (w : World), Rl p ops.size l l' → wpAny P md (perm p ops) Q f l' a w → wpAny P md ops Q f l a w
  | 0, l, l', a, w, r, hh => by
    refine ⟨?_, hh.2⟩
    refine List.eq_nil_iff_forall_not_mem.2 fun i hi => ?_
    have := (ready_perm h r (ready_lt hi)).2 hi
    rw [hh.1] at this
    cases this
  | f + 1, l, l', a, w, r, hh => by
    refine ⟨fun h0 => hh.1 (List.eq_nil_iff_forall_not_mem.2 fun j hj => ?_), fun i hi => ?_⟩
    · have hjl := ready_lt hj
      rw [size_perm h] at hjl
      obtain ⟨i, hi, _, rfl⟩ := h.idx_get hjl
      have := (ready_perm h r hi).1 hj
      rw [h0] at this
      cases this
    · have hil := ready_lt hi
      refine wpOp_perm h hil (wpOp_mono (fun a w hk => ?_) (hh.2 _ ((ready_perm h r hil).2 hi)))
      exact wpAny_perm h f _ _ a w (r.set h hil) hk
theorem wpList_perm (h : Perm p ops.size) : ∀ (l : List Oper) (a : Act) (w : World), wpList P ops Q l a w → wpList P (perm p ops) Q (l.map (mv p)) a w
  | [], _, _, hh => hh
  | o :: rest, a, w, hh => by
    rw [List.map_cons]
    unfold wpList at hh ⊢
    rw [wanted_perm h]
    by_cases hw : Region.wanted o (yielded ops a.tmps) = true
    · rw [if_pos hw] at hh ⊢
      exact hh.imp (Oper.wp_mono (fun a w hk => wpList_perm h rest a w hk)) id
    · rw [if_neg hw] at hh ⊢
      exact wpList_perm h rest _ w hh
end
section
variable {P : Program} {ops : Array Oper} {w0 : World} {Pn : Pnc} {p : List Nat} {M : Nat → Obj × (Nat → Value)}
theorem Y_perm (h : Perm p ops.size) {fs : Fs} {o : Oper} {v : Value} {a : Act} (hy : Y P ops w0 fs o v a) : Y P (perm p ops) w0 fs (mv p o) v a := by
  have hsb : Ru.subB (mv p o) = Ru.subB o := by
    unfold Ru.subB mv
    cases o.guard <;> rfl
  unfold Y at *
  rw [mv_exec, wanted_perm h, hsb]
  exact hy
theorem Z_perm (h : Perm p ops.size) {fs : Fs} {o : Oper} {R : Value → World → Prop} {a : Act} (hy : Z P Pn ops w0 fs o R a) : Z P Pn (perm p ops) w0 fs (mv p o) R a := by
  unfold Z at *
  rw [mv_exec, wanted_perm h]
  exact hy
theorem Mk_perm (h : Perm p ops.size) {o : Oper} {m : Obj × (Nat → Value)} {a : Act} (hy : Mk P ops o m a) : Mk P (perm p ops) (mv p o) m a := by
  unfold Mk at *
  rw [mv_exec, wanted_perm h]
  exact hy
def re (p : List Nat) (s : List (Nat × Kd)) : List (Nat × Kd) := s.map fun x => (p.idxOf x.1, x.2)
theorem wr_perm (h : Perm p ops.size) {fin fin' : Act → Fs → Prop} (hf : ∀ a fs, fin a fs → fin' a fs) : ∀ (s : List (Nat × Kd)) (a : Act) (bs : List Nat) (fs : Fs),
    wr P Pn ops w0 M fin s a bs fs → wr P Pn (perm p ops) w0 (fun j => M (p.getD j 0)) fin' (re p s) a bs fs
  | [], a, bs, fs, hh => hf a fs hh
  | (i, k) :: rest, a, bs, fs, hh => by
    have key : ∀ o, ops[i]? = some o → (perm p ops)[p.idxOf i]? = some (mv p o) ∧ p.getD (p.idxOf i) 0 = i := fun o ho => by
      have hi := (Array.getElem?_eq_some_iff.1 ho).1
      exact ⟨by rw [get_perm h hi, ho]; rfl, by rw [List.getD_eq_getElem?_getD, h.get_idx hi]; rfl⟩
    unfold re
    rw [List.map_cons]
    cases k with
    | y =>
      obtain ⟨o, ho, v, hy, hk⟩ := hh
      exact ⟨mv p o, (key o ho).1, v, Y_perm h hy, wr_perm h hf rest _ _ _ hk⟩
    | z =>
      obtain ⟨o, ho, R, hy, hk⟩ := hh
      exact ⟨mv p o, (key o ho).1, R, Z_perm h hy, fun v => wr_perm h hf rest _ _ _ (hk v)⟩
    | m =>
      obtain ⟨o, ho, hy, hk⟩ := hh
      refine ⟨mv p o, (key o ho).1, ?_, fun q hq => ?_⟩
      · simp only [(key o ho).2]; exact Mk_perm h hy
      · simp only [(key o ho).2]; exact wr_perm h hf rest _ _ _ (hk q hq)
def allT (P : Program) (s : List (Nat × Kd)) (tl : List Nat) (E : List Nat) (l : List Oper) : Bool :=
  permB (s.map (·.1) ++ tl) l.length && allR P .any (perm (s.map (·.1) ++ tl) l.toArray) (E.map fun i => (s.map (·.1) ++ tl).idxOf i) (re (s.map (·.1) ++ tl) s)
theorem wpAny_G {Q : Exit → Act → World → Prop} {a : Act} {w : World} {l : List Oper} (E : List Nat) (s : List (Nat × Kd)) (M : Nat → Obj × (Nat → Value)) (Pn : Pnc) (hQ : ∀ c a' w', a'.defers = a.defers → Ext w w' → Pn c w' → Q (.panic c) a' w')
    (hQp : E ≠ [] → ∀ c a d v w, Q (.panic c) (a.put d v) w → Q (.panic c) a w) (hB : allR P .any l.toArray E s = true)
    (h : wr P Pn l.toArray w M (fun a fs => ∀ w', Ext w w' → Holds fs w' → wpList P l.toArray Q (l.drop s.length) a w') s a [] []) : wpAny P .any l.toArray Q l.toArray.size (Array.replicate l.toArray.size false) a { w with drawn := w.drawn + 1 } := by
  simp only [allR, Bool.and_eq_true, decide_eq_true_eq] at hB
  obtain ⟨⟨⟨⟨⟨hsel, hn⟩, hs⟩, hc⟩, heb⟩, hlex⟩ := hB
  have hn' : s.length < l.length := by simpa using hn
  have hdl : (l.drop s.length).length = l.toArray.size - s.length := by simp
  have inv0 : HeadInv .any l.toArray s.length (Array.replicate l.toArray.size false) :=
    ⟨by simp, fun j oj _ hl => (by rw [getD_replicate_false] at hl; cases hl), fun t _ ht => getD_in (by simpa using ht) (getD_replicate_false _ _)⟩
  let T : Array Bool → Act → Fs → Prop := fun listed a fs => Region.seqB .any l.toArray (l.toArray.size - s.length) s.length listed = true ∧ ∀ w', Ext w w' → Holds fs w' → wpList P l.toArray Q (l.drop s.length) a w'
  have H := WX_lex (P := P) (Pn := Pn) (E := E) (w0 := w) (M := M) (md := .any) (kd := kdOf s) (T := T) (fun _ _ _ _ l h => ⟨h.1, fun w' e hf => h.2 w' e (hf.le l)⟩) hsel hs hc hn (fun listed a fs hT j hj => seqB_ready hT.1 j (mem_rdy.1 hj).1) (fun listed a fs h1 h2 => ⟨h1, h2⟩) s _ a [] [] inv0 hlex h
  have := WX.sound (Q := Q) (g := l.toArray.size - s.length) (fun listed a' fs w' hT hw hF => by
    have := wpAny_of_seq (md := .any) (Q' := Q) (l.drop s.length) s.length listed a' w' (fun j => by simp [List.getElem?_drop]) (by rw [hdl]; exact hT.1) (hT.2 w' hw hF)
    rwa [hdl] at this) hQ (Region.noSelect_spec hsel) heb hQp _ _ _ _ _ { w with drawn := w.drawn + 1 } rfl inv0 H (Ext.drew (Ext.refl w)) (fun b hb => by cases hb) (fun b hb => by cases hb) (fun b hb => by cases hb)
  rw [show s.length + (l.toArray.size - s.length) = l.toArray.size by omega] at this
  exact this
theorem wp_regionG {id : Nat} {Q : Exit → Act → World → Prop} {a : Act} {w : World} {l : List Oper} (E : List Nat) (s : List (Nat × Kd)) (tl : List Nat) (M : Nat → Obj × (Nat → Value)) (Pn : Pnc) (hQ : ∀ c a' w', a'.defers = a.defers → Ext w w' → Pn c w' → Q (.panic c) a' w')
    (hQp : E ≠ [] → ∀ c a d v w, Q (.panic c) (a.put d v) w → Q (.panic c) a w) (hm : P.follows .mixedOrders = true) (hB : allT P s tl E l = true)
    (h : wr P Pn l.toArray w M (fun a fs => ∀ w', Ext w w' → Holds fs w' → wpList P l.toArray Q (tl.filterMap (l[·]?)) a w') s a [] []) : (Code.region id l.toArray true).wp P Q a w := by
  unfold allT at hB
  rw [Bool.and_eq_true] at hB
  obtain ⟨hp, hB⟩ := hB
  generalize hpe : s.map (·.1) ++ tl = p at *
  have hP : Perm p l.toArray.size := by simpa using permB_spec hp
  have htl : ∀ i ∈ tl, i < l.length := fun i hi => by simpa using hP.lt i (by rw [← hpe]; exact List.mem_append_right _ hi)
  have hdrop : (perm p l.toArray).toList.drop (re p s).length = (tl.filterMap (l[·]?)).map (mv p) := by
    unfold perm re
    rw [List.length_map]
    show (p.map _).drop s.length = _
    rw [← List.map_drop, show p.drop s.length = tl by rw [← hpe, List.drop_append_of_le_length (by simp), List.drop_eq_nil_of_le (by simp), List.nil_append]]
    clear hpe hB hp hP h
    induction tl with
    | nil => rfl
    | cons i t ih =>
      have hi := htl i List.mem_cons_self
      rw [List.map_cons, ih (fun j hj => htl j (List.mem_cons_of_mem _ hj)), List.filterMap_cons, List.getElem?_eq_getElem hi]
      simp [Array.getD, hi]
  refine wp_region_any hm ?_
  refine wpAny_perm hP _ (Array.replicate l.toArray.size false) (Array.replicate l.toArray.size false) a _ ⟨by simp, by simp, fun i hi => by rw [Array.getElem?_replicate, Array.getElem?_replicate, if_pos hi, if_pos (hP.idx_lt hi)]⟩ ?_
  have key := wpAny_G (l := (perm p l.toArray).toList) (w := w) (a := a) (Q := Q) (P := P) (E.map fun i => p.idxOf i) (re p s) (fun j => M (p.getD j 0)) Pn hQ (fun hne => hQp (fun h0 => hne (by rw [h0]; rfl))) (by simpa using hB) (by
    rw [hdrop]
    exact wr_perm hP (fun a fs hf w' e hh => wpList_perm hP _ a w' (hf w' e hh)) s a [] [] h)
  have hs := size_perm hP
  simpa [hs] using key
theorem wp_regionTE {id : Nat} {Q : Exit → Act → World → Prop} {a : Act} {w : World} {l : List Oper} (E : List Nat) (s : List (Nat × Kd)) (tl : List Nat) (M : Nat → Obj × (Nat → Value)) (hQp : ∀ c a d v w, Q (.panic c) (a.put d v) w → Q (.panic c) a w) (hm : P.follows .mixedOrders = true) (hB : allT P s tl E l = true)
    (h : wr P (fun _ _ => False) l.toArray w M (fun a fs => ∀ w', Ext w w' → Holds fs w' → wpList P l.toArray Q (tl.filterMap (l[·]?)) a w') s a [] []) : (Code.region id l.toArray true).wp P Q a w :=
  wp_regionG E s tl M _ (fun _ _ _ _ _ h => h.elim) (fun _ => hQp) hm hB h
end
end Go.Proofs.YteomcpplajeidaaGreat.Rv
