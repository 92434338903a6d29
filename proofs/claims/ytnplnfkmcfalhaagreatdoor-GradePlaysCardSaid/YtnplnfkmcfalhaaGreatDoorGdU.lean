/-
  'append' with all that it leaves; rows of different types. Nothing is asked.
-/
import Derived.Test.YtnplnfkmcfalhaaGreatDoorGdB
namespace Go.Proofs.YtnplnfkmcfalhaaGreatDoor
set_option linter.unusedVariables false
set_option linter.unusedSimpArgs false
open Go.RowKit

theorem append_g {α : Type} {cs : α → List Value} {sz : Nat} (T E bytes : Nat) {z : Value} (hT : Tryz.prog.underlying T = some (.slice E))
    (hinfo : (Tryz.prog.info? E).map (fun i => (i.zero, i.size, i.bytes)) = some (some z, sz, bytes)) (hz : z.cells.size = sz) (h0 : 0 < sz) (hby : bytes ≤ 100000)
    {ops : Array Oper} {rest : List Oper} {o : Oper} {a : Act} {Q : Exit → Act → World → Prop} {w : World} (hgd : o.guard = none) (s x : Operand)
    (ho : o.op = .call { callee := .builtin .append, args := #[s, x], argTypes := #[T, T] }) (B : Nat) (v : Value) (vs : List α) (hs : a.eval s = v) (hF : w.ownsRow B E sz v vs.length (vs.flatMap cs))
    (p : Nat) (u : α) (hl : (cs u).length = sz ∧ ∀ c ∈ cs u, c.oneCell' = true) (hx : a.eval x = .slice (some ⟨p, 0, none⟩) 1 1) (hp : w.heap[p]? = some (.cells (cs u).toArray E)) (hn : vs.length < 1000000) (hB : B ≤ w.heap.size)
    (h : ∀ g cap w', w'.ownsRow B E sz (.slice (some ⟨g, 0, none⟩) (vs.length + 1) cap) (vs ++ [u]).length ((vs ++ [u]).flatMap cs) → w.grownBy w' v.ownBlock → (v.ownBlock = some g ∨ g = w.heap.size) → wpList Tryz.prog ops Q rest (a.put o.dst (.slice (some ⟨g, 0, none⟩) (vs.length + 1) cap)) w') : wpList Tryz.prog ops Q (o :: rest) a w := by
  obtain ⟨i0, hi, hz0, hz1, hz2⟩ := info_parts hinfo
  refine wpList_append_lies w hgd s x T ho B E i0 _ sz bytes hT hi hz0 hz1 hz2 hz h0 v vs.length _ hs hF ⟨p, 0, none⟩ 1 1 (cs u) hx (by rw [hl.1, Nat.one_mul]) ?_ hl.2 (by decide) (by unfold maxLen; omega) ?_ hB w.heap.size rfl ?_
  · intro j c hc
    rw [addr_add, cell_of_row w p _ _ _ _ hp]
    simpa using hc
  · have : (vs.length + 1) * bytes ≤ 1000000 * 100000 := Nat.mul_le_mul (by omega) hby
    omega
  · intro g cap w' hw hg hat hlt
    refine h g cap w' ?_ hg hat
    rw [List.flatMap_append, List.length_append]
    simpa using hw

/-- A row's own block is a block of its type. -/
theorem row_block {B E sz n : Nat} {w : World} {v : Value} {xs : List Value} (h : w.ownsRow B E sz v n xs) {g : Nat} (hg : v.ownBlock = some g) : ∃ cs, w.heap[g]? = some (.cells cs E) := by
  rcases h.2 with ⟨rfl, -⟩ | ⟨g', cap, cur, rfl, hb, hc, -⟩
  · cases hg
  · cases hg
    exact ⟨_, hc⟩
theorem row_ne {B E sz n B' E' sz' n' : Nat} {w : World} {v v' : Value} {xs xs' : List Value} (h : w.ownsRow B E sz v n xs) (h' : w.ownsRow B' E' sz' v' n' xs') (hE : E ≠ E') : v.ownBlock = none ∨ v.ownBlock ≠ v'.ownBlock := by
  cases hg : v.ownBlock with
  | none => exact .inl rfl
  | some g =>
    refine .inr fun e => ?_
    obtain ⟨cs, h1⟩ := row_block h hg
    obtain ⟨cs', h2⟩ := row_block h' e.symm
    rw [h1] at h2
    cases h2
    exact hE rfl
theorem grown_ext {w0 w w' : World} {v : Value} {B E sz n : Nat} {xs : List Value} (h : Ext w0 w) (hr : w.ownsRow B E sz v n xs) (hB : w0.heap.size ≤ B) (hg : w.grownBy w' v.ownBlock) : Ext w0 w' :=
  Below.trans h ⟨hg.os, hg.tape, hg.output, hg.size, fun k hk => hg.block k (by have := h.size; omega) (fun e => by have := (hr.lt k e.symm).1; omega)⟩


/-- The book with one grade more. -/
def Bk.put (b : Bk) (g : Gd) : Bk := { b with
  gr := fun k => if k = g.pl then some g else b.gr k
  old := b.old ++ (match b.gr g.pl with | some o => if o.n = g.n then [] else [o] | none => []) }
/-- Give: the error, and the book behind it. -/
def giveR (b : Bk) (g : Gd) : Int × Bk :=
  match b.crit g.name with
  | none => (34, b)
  | some c => if b.lots g.lot = false then (34, b) else if b.dut ⟨g.ass, g.bid⟩ = false then (35, b) else if g.n < c.low ∨ c.high < g.n then (16, b) else if b.fin g.bid = true then (31, b) else (0, b.put g)
/-- The book at p has become b. -/
def GP (F : List Nat) (w : World) (p : Nat) (b : Bk) (w' : World) : Prop := ∃ F', BR w' p b F' ∧ (∀ k ∈ F', k ∈ F ∨ w.heap.size ≤ k) ∧ KF F w w'
theorem GP.same {F : List Nat} {w w' : World} {p : Nat} {b : Bk} (h : BR w p b F) (e : Ext w w') : GP F w p b w' := ⟨F, h.ext e, fun _ hk => .inl hk, KF.of e⟩

theorem mem_blks {p : Nat} {ml mc md mg mf : Option Nat} {cv : Value} {k : Nat} : k ∈ blks p ml mc md mg mf cv ↔ k = p ∨ ml = some k ∨ mc = some k ∨ md = some k ∨ mg = some k ∨ mf = some k ∨ cv.ownBlock = some k := by
  unfold blks
  simp only [List.mem_cons, List.mem_append, Option.mem_toList]
theorem MO.ne_cells {κ : Type} [DecidableEq κ] {enc : κ → Value} {good : κ → Prop} {w : World} {o : Option Nat} {f : κ → Option Value} (h : MO enc good w o f) {p : Nat} {cs : Array Value} {t : TypeId} {fr : Nat × Nat} (hp : w.heap[p]? = some (.cells cs t fr)) : o ≠ some p := by
  rintro rfl
  obtain ⟨m, ⟨-, -, es, clock, hb, -⟩, -⟩ := h
  rw [hp] at hb
  cases hb
/-- The map of grades, found or new. -/
def BGd (mg : Option Nat) (bg n : Nat) : Prop := mg = some bg ∨ (mg = none ∧ n ≤ bg)
theorem BGd.old {mg : Option Nat} {bg n : Nat} (h : BGd mg bg n) (hb : bg < n) : mg = some bg := h.elim id (fun h => absurd h.2 (by omega))
theorem put_look {b : Bk} {g : Gd} {m : List (Pl × Value)} (h : ∀ k, m.lookup k = (b.gr k).map Gd.v) (k : Pl) : (putL m g.pl g.v).lookup k = ((b.put g).gr k).map Gd.v := by
  rw [lookup_put, h]
  unfold Bk.put
  by_cases hk : k = g.pl
  · simp [hk]
  · simp [hk]
/-- Where one map of a book, or its row of changes, has turned, the others stay. -/
theorem put_done {w W : World} {p : Nat} {b : Bk} {F : List Nat} {g : Gd} {ml mc md mg mf : Option Nat} {cv cv' : Value} {bg : Nat}
    (hp : w.heap[p]? = some (.cells #[.map ml, .map mc, .map md, .map mg, .map mf, cv] 40)) (hF : F = blks p ml mc md mg mf cv) (hD : DM ml mc md mg mf)
    (h1 : MO encI OkI w ml (boolF b.lots)) (h2 : MO encS OkS w mc (fun n => (b.crit n).map Cr.v)) (h3 : MO encD OkD w md (boolF b.dut)) (h5 : MO encI OkI w mf (boolF b.fin))
    (h6 : w.ownsRow 0 23 6 cv b.old.length (b.old.flatMap Gd.cs)) (h7 : (∀ n c, b.crit n = some c → c.ok ∧ c.name = n) ∧ (∀ k g, b.gr k = some g → g.ok ∧ g.pl = k) ∧ (∀ g ∈ b.old, g.ok) ∧ DB w md) (hok : g.ok)
    (hbg : BGd mg bg w.heap.size)
    (hp' : W.heap[p]? = some (.cells #[.map ml, .map mc, .map md, .map (some bg), .map mf, cv'] 40))
    (hm' : ∃ m, MP encP OkP W bg m ∧ ∀ k, m.lookup k = ((b.put g).gr k).map Gd.v)
    (hrow : W.ownsRow 0 23 6 cv' (b.put g).old.length ((b.put g).old.flatMap Gd.cs))
    (hcv : cv'.ownBlock = cv.ownBlock ∨ ∃ q, cv'.ownBlock = some q ∧ w.heap.size ≤ q)
    (hK : KF F w W) (hsame : ∀ k, k < w.heap.size → k ≠ p → some k ≠ mg → some k ≠ cv.ownBlock → W.heap[k]? = w.heap[k]?) : GP F w p (b.put g) W := by
  subst hF
  have hne : ∀ {κ : Type} [DecidableEq κ] {enc : κ → Value} {good : κ → Prop} {o : Option Nat} {f : κ → Option Value}, MO enc good w o f → (∀ q, o = some q → mg ≠ some q) → ∀ q, o = some q → W.heap[q]? = w.heap[q]? := fun {κ _ enc good o f} h hg q e => by
    refine hsame q (h.lt q e) (fun e1 => h.ne_cells hp (e1 ▸ e)) (fun e1 => hg q e e1.symm) (fun e1 => ?_)
    obtain ⟨cs, hc⟩ := row_block h6 e1.symm
    exact h.ne_cells hc e
  have e1 := hne h1 (fun q e e' => (hD.1 q e').1 e)
  have e2 := hne h2 (fun q e e' => (hD.1 q e').2.1 e)
  have e3 := hne h3 (fun q e e' => (hD.1 q e').2.2 e)
  have e5 := hne h5 (fun q e e' => (hD.2 q e).2.2.2 e')
  have l1 := h1.lt; have l2 := h2.lt; have l3 := h3.lt; have l5 := h5.lt
  have hbn : ∀ o, (∀ q, o = some q → q < w.heap.size) → (∀ q, mg = some q → o ≠ some q) → o ≠ some bg := fun o hl hn e => by
    rcases hbg with h | ⟨-, h⟩
    · exact hn bg h e
    · have := hl bg e; omega
  refine ⟨_, ⟨ml, mc, md, some bg, mf, cv', hp', rfl, ⟨fun q e => ?_, fun q e => ⟨(hD.2 q e).1, (hD.2 q e).2.1, (hD.2 q e).2.2.1, fun e' => ?_⟩⟩, h1.of_block e1, h2.of_block e2, h3.of_block e3, hm', h5.of_block e5, hrow, h7.1, fun k g' hg' => ?_, fun g' hg' => ?_, h7.2.2.2.of_block e3⟩, fun k hk => ?_, hK⟩
  · injection e with e
    subst e
    exact ⟨hbn ml l1 (fun q h => (hD.1 q h).1), hbn mc l2 (fun q h => (hD.1 q h).2.1), hbn md l3 (fun q h => (hD.1 q h).2.2)⟩
  · injection e' with e'
    subst e'
    exact hbn mf l5 (fun q h hh => (hD.2 q hh).2.2.2 h) e
  · unfold Bk.put at hg'
    simp only at hg'
    split at hg'
    · rename_i hk
      injection hg' with hg'
      subst hg'
      exact ⟨hok, hk.symm⟩
    · exact h7.2.1 k g' hg'
  · unfold Bk.put at hg'
    simp only [List.mem_append] at hg'
    rcases hg' with hg' | hg'
    · exact h7.2.2.1 g' hg'
    · cases ho : b.gr g.pl with
      | none => rw [ho] at hg'; cases hg'
      | some o =>
        rw [ho] at hg'
        simp only at hg'
        split at hg'
        · cases hg'
        · rw [List.mem_singleton] at hg'
          subst hg'
          exact (h7.2.1 _ _ ho).1
  · rw [mem_blks] at hk ⊢
    rcases hk with h | h | h | h | h | h | h
    · exact .inl (.inl h)
    · exact .inl (.inr (.inl h))
    · exact .inl (.inr (.inr (.inl h)))
    · exact .inl (.inr (.inr (.inr (.inl h))))
    · injection h with h
      subst h
      rcases hbg with h | ⟨-, h⟩
      · exact .inl (.inr (.inr (.inr (.inr (.inl h)))))
      · exact .inr h
    · exact .inl (.inr (.inr (.inr (.inr (.inr (.inl h))))))
    · rcases hcv with h1 | ⟨q, h1, h2⟩
      · rw [h1] at h
        exact .inl (.inr (.inr (.inr (.inr (.inr (.inr h))))))
      · rw [h1] at h
        injection h with h
        subst h
        exact .inr h2
end Go.Proofs.YtnplnfkmcfalhaaGreatDoor
