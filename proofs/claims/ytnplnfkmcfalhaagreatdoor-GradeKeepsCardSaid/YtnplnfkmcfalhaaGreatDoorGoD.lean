/-
  GradeKeeps: what a book holds after some calls; rows that are overwritten beside it. Plain laws, and frames; nothing is asked.
-/
import Derived.Test.YtnplnfkmcfalhaaGreatDoorGoB
namespace Go.Proofs.YtnplnfkmcfalhaaGreatDoor
set_option linter.unusedVariables false
set_option linter.unusedSimpArgs false
open Go.RowKit

/-- What is known of a book after at most i calls. -/
structure KP (b0 b : Bk) (i : Nat) : Prop where
  crit : b.crit = b0.crit
  gr : ∃ ps : List Pl, ps.length ≤ i ∧ ∀ k, (b.gr k).isSome → k ∈ ps
  fin : ∃ fs : List Int, fs.length ≤ i ∧ ∀ n, b.fin n = true → n ∈ fs
  old : b.old.length ≤ i
  nm : ∀ k g, b.gr k = some g → (b0.crit g.name).isSome
  no : ∀ g ∈ b.old, (b0.crit g.name).isSome
theorem KP.start {b0 : Bk} (h1 : b0.gr = fun _ => none) (h2 : b0.fin = fun _ => false) (h3 : b0.old = []) : KP b0 b0 0 :=
  ⟨rfl, ⟨[], Nat.le_refl _, (fun k hk => by rw [h1] at hk; cases hk)⟩, ⟨[], Nat.le_refl _, (fun n hn => by rw [h2] at hn; cases hn)⟩, by rw [h3]; exact Nat.le_refl _, (fun k g h => by rw [h1] at h; cases h), (fun g hg => by rw [h3] at hg; cases hg)⟩
theorem KP.more {b0 b : Bk} {i j : Nat} (h : KP b0 b i) (hj : i ≤ j) : KP b0 b j := by
  obtain ⟨h1, ⟨ps, p1, p2⟩, ⟨fs, f1, f2⟩, h4, h5, h6⟩ := h
  exact ⟨h1, ⟨ps, by omega, p2⟩, ⟨fs, by omega, f2⟩, by omega, h5, h6⟩
theorem give_crit {b : Bk} {g : Gd} (h : giveR b g = (0, b.put g)) : (b.crit g.name).isSome := by
  cases hc : b.crit g.name with
  | none => rw [giveR_none hc] at h; injection h with h _; exact absurd h (by decide)
  | some c => rfl
theorem KP.give {b0 b : Bk} {i : Nat} (h : KP b0 b i) (g : Gd) : KP b0 (giveR b g).2 (i + 1) := by
  rcases give_cases b g with ⟨k, -, e⟩ | ⟨e, -⟩
  · rw [e]
    exact h.more (by omega)
  · have hc := give_crit e
    rw [h.crit] at hc
    rw [e]
    obtain ⟨h1, ⟨ps, p1, p2⟩, ⟨fs, f1, f2⟩, h4, h5, h6⟩ := h
    have hold : ∀ o, b.gr g.pl = some o → (b.put g).old = b.old ++ if o.n = g.n then [] else [o] := fun o ho => put_old b g ho
    refine ⟨h1, ⟨g.pl :: ps, by simp; omega, fun k hk => ?_⟩, ⟨fs, by omega, f2⟩, ?_, fun k x hx => ?_, fun x hx => ?_⟩
    · by_cases hkp : k = g.pl
      · subst hkp; exact List.mem_cons_self
      · exact List.mem_cons_of_mem _ (p2 k (by rw [put_ne b g hkp] at hk; exact hk))
    · cases ho : b.gr g.pl with
      | none => show (b.put g).old.length ≤ _; rw [put_old0 b g ho]; omega
      | some o => show (b.put g).old.length ≤ _; rw [hold o ho, List.length_append]; split <;> simp <;> omega
    · by_cases hkp : k = g.pl
      · subst hkp
        have : (b.put g).gr g.pl = some g := put_same b g
        rw [this] at hx
        injection hx with hx
        rw [← hx]
        exact hc
      · exact h5 k x (by rw [put_ne b g hkp] at hx; exact hx)
    · cases ho : b.gr g.pl with
      | none =>
        have hx' : x ∈ (b.put g).old := hx
        rw [put_old0 b g ho] at hx'
        exact h6 x hx'
      | some o =>
        have hx' : x ∈ (b.put g).old := hx
        rw [hold o ho] at hx'
        rcases List.mem_append.1 hx' with hx | hx
        · exact h6 x hx
        · split at hx
          · cases hx
          · rw [List.mem_singleton] at hx
            rw [hx]
            exact h5 _ o ho
theorem KP.final {b0 b : Bk} {i : Nat} (h : KP b0 b i) (bid : Int) : KP b0 (finB b bid) (i + 1) := by
  unfold finB
  split
  · obtain ⟨h1, ⟨ps, p1, p2⟩, ⟨fs, f1, f2⟩, h4, h5, h6⟩ := h
    refine ⟨h1, ⟨ps, by omega, p2⟩, ⟨bid :: fs, by simp; omega, fun n hn => ?_⟩, by show b.old.length ≤ _; omega, h5, h6⟩
    have hn' : (if n = bid then true else b.fin n) = true := hn
    split at hn'
    · rename_i e; rw [e]; exact List.mem_cons_self
    · exact List.mem_cons_of_mem _ (f2 n hn')
  · exact h.more (by omega)

/-! ### Rows that are overwritten -/
/-- Blocks between lo and hi may have turned. -/
structure MK (lo hi : Nat) (w w' : World) : Prop where
  os : w'.os = w.os
  tape : w'.tape = w.tape
  output : w'.output = w.output
  size : w.heap.size ≤ w'.heap.size
  block : ∀ k, k < w.heap.size → (k < lo ∨ hi ≤ k) → w'.heap[k]? = w.heap[k]?
theorem MK.refl (lo hi : Nat) (w : World) : MK lo hi w w := ⟨rfl, rfl, rfl, Nat.le_refl _, fun _ _ _ => rfl⟩
theorem MK.ext {lo hi : Nat} {w w1 w2 : World} (h : MK lo hi w w1) (e : Ext w1 w2) : MK lo hi w w2 := ⟨e.os.trans h.os, e.tape.trans h.tape, e.output.trans h.output, Nat.le_trans h.size e.size, fun k hk hn => (e.block k (Nat.lt_of_lt_of_le hk h.size)).trans (h.block k hk hn)⟩
theorem MK.setCell {lo hi : Nat} {w w1 : World} (h : MK lo hi w w1) {g i : Nat} (h1 : lo ≤ g) (h2 : g < hi) (v : Value) : MK lo hi w (w1.setCell ⟨g, i, none⟩ v) :=
  ⟨h.os, h.tape, h.output, by rw [World.size_setCell]; exact h.size, fun k hk hn => (heap_setCell_other w1 _ k _ (by show k ≠ g; omega)).trans (h.block k hk hn)⟩
theorem MK.below {lo hi : Nat} {w w' : World} (h : MK lo hi w w') (hs : lo ≤ w.heap.size) : Below lo w w' := ⟨h.os, h.tape, h.output, h.size, fun k hk => h.block k (by omega) (.inl hk)⟩
theorem BR.mk {w w' : World} {p : Nat} {b : Bk} {F : List Nat} (h : BR w p b F) {lo hi : Nat} (e : MK lo hi w w') (hF : ∀ k ∈ F, hi ≤ k) : BR w' p b F := h.stay (fun k hk => e.block k (h.lt k hk) (.inr (hF k hk)))
theorem row_mk {B E sz n : Nat} {w w' : World} {v : Value} {xs : List Value} (ho : w.ownsRow B E sz v n xs) {lo : Nat} (e : MK lo B w w') : w'.ownsRow B E sz v n xs :=
  row_of_block ho (fun k hk => e.block k (ho.lt k hk).2 (.inr (ho.lt k hk).1))
theorem RB.mk {B : Nat} {w w' : World} {p : Nat} {L : List Int} {C : List Cr} {D : List Dy} (h : RB B w p L C D) {lo : Nat} (e : MK lo B w w') : RB B w' p L C D := by
  obtain ⟨vl, vc, vd, h0, h1, h2, h3, h4⟩ := h
  exact ⟨vl, vc, vd, h0, (e.block _ (Rg.lt_of_heap h1) (.inr h0)).trans h1, row_mk h2 e, row_mk h3 e, row_mk h4 e⟩
/-- A block of n cells of type t at least. -/
def RO (t sz lo hi : Nat) (b : Option Addr) (n : Nat) (w : World) : Prop := n = 0 ∨ ∃ q cur, b = some ⟨q, 0, none⟩ ∧ w.heap[q]? = some (.cells cur t (0, 0)) ∧ n * sz ≤ cur.size ∧ lo ≤ q ∧ q < hi
theorem setCell_block {w : World} {q : Nat} {cur : Array Value} {t : TypeId} (h : w.heap[q]? = some (.cells cur t (0, 0))) (a : Addr) (v : Value) : ∃ cur', (w.setCell a v).heap[q]? = some (.cells cur' t (0, 0)) ∧ cur'.size = cur.size := by
  by_cases hq : q = a.block
  · subst hq
    have hlt := Rg.lt_of_heap h
    refine ⟨if a.spot.isSome then cur else cur.setIfInBounds a.off v, ?_, ?_⟩
    · unfold World.setCell
      simp only [Array.getElem?_modify, if_true, h, Option.map_some]
    · split <;> simp
  · exact ⟨cur, (heap_setCell_other w a q v hq).trans h, rfl⟩
theorem RO.setCell {t sz lo hi n : Nat} {b : Option Addr} {w : World} (h : RO t sz lo hi b n w) (a : Addr) (v : Value) : RO t sz lo hi b n (w.setCell a v) := by
  rcases h with h | ⟨q, cur, h1, h2, h3, h4, h5⟩
  · exact .inl h
  · obtain ⟨cur', k1, k2⟩ := setCell_block h2 a v
    exact .inr ⟨q, cur', h1, k1, by omega, h4, h5⟩
theorem RO.of_row {B t sz n c : Nat} {w : World} {b : Option Addr} {xs : List Value} (h : w.ownsRow B t sz (.slice b n c) n xs) {hi : Nat} (hh : w.heap.size ≤ hi) : RO t sz B hi b n w := by
  rcases h.2 with ⟨h1, h2⟩ | ⟨g, cap, cur, hv, hB, hb, h1, h2, h3, h4⟩
  · exact .inl h2
  · injection hv with hv1 _ hv3
    exact .inr ⟨g, cur, hv1, hb, by rw [h3]; exact Nat.mul_le_mul_right sz h1, hB, Nat.lt_of_lt_of_le (Rg.lt_of_heap hb) hh⟩
theorem RO.ext {t sz lo hi n : Nat} {b : Option Addr} {w w' : World} (h : RO t sz lo hi b n w) (e : Ext w w') : RO t sz lo hi b n w' := by
  rcases h with h | ⟨q, cur, h1, h2, h3, h4, h5⟩
  · exact .inl h
  · exact .inr ⟨q, cur, h1, (e.block _ (Rg.lt_of_heap h2)).trans h2, h3, h4, h5⟩
theorem RO.at {t sz lo hi n : Nat} {b : Option Addr} {w : World} (h : RO t sz lo hi b n w) (hn : 0 < n) : ∃ q, b = some ⟨q, 0, none⟩ ∧ lo ≤ q ∧ q < hi ∧ q < w.heap.size ∧ (∀ k j, k < n → j < sz → ∃ v, w.cell? ⟨q, k * sz + j, none⟩ = some v) ∧ (∀ o, w.frozen? ⟨q, o, none⟩ = false) ∧ ∃ cur, w.heap[q]? = some (.cells cur t (0, 0)) := by
  obtain ⟨q, cur, h1, h2, h3, h4, h5⟩ := h.resolve_left (by omega)
  refine ⟨q, h1, h4, h5, Rg.lt_of_heap h2, fun k j hk hj => ?_, (fun o => by simp [World.frozen?, h2]), cur, h2⟩
  have : k * sz + j < cur.size := by
    have : (k + 1) * sz ≤ n * sz := Nat.mul_le_mul_right sz hk
    rw [Nat.succ_mul] at this
    omega
  refine ⟨cur[k * sz + j], ?_⟩
  rw [cell_of_row w q _ _ _ _ h2]
  simp [this]
theorem heap_ne {w : World} {p : Nat} {cs : Array Value} {t : TypeId} {fr : Nat × Nat} (h : w.heap[p]? = some (.cells cs t fr)) {q : Nat} (hq : p ≠ q) (i : Nat) (v : Value) : (w.setCell ⟨q, i, none⟩ v).heap[p]? = some (.cells cs t fr) := (heap_setCell_other w _ p _ (by show p ≠ q; exact hq)).trans h
/-- The tender's rows, that are overwritten. -/
structure KS (lo hi : Nat) (W : World) (pt : Nat) (ten : Array Value) (lb : Option Addr) (nl : Nat) (cb : Option Addr) (nc : Nat) (db : Option Addr) (nd : Nat) (wr : World) : Prop where
  mid : MK lo hi W wr
  ten : wr.heap[pt]? = some (.cells ten 55)
  lots : RO 71 2 lo hi lb nl wr
  cris : RO 73 5 lo hi cb nc wr
  duts : RO 57 2 lo hi db nd wr
theorem KS.set {lo hi : Nat} {W : World} {pt : Nat} {ten : Array Value} {lb : Option Addr} {nl : Nat} {cb : Option Addr} {nc : Nat} {db : Option Addr} {nd : Nat} {wr : World} (h : KS lo hi W pt ten lb nl cb nc db nd wr) {g : Nat} (h1 : lo ≤ g) (h2 : g < hi) (h3 : pt ≠ g) (i : Nat) (v : Value) : KS lo hi W pt ten lb nl cb nc db nd (wr.setCell ⟨g, i, none⟩ v) :=
  ⟨h.mid.setCell h1 h2 v, heap_ne h.ten h3 i v, h.lots.setCell _ v, h.cris.setCell _ v, h.duts.setCell _ v⟩
theorem KS.ne {wr : World} {pt q : Nat} {ten cur : Array Value} {t : TypeId} {fr : Nat × Nat} (h : wr.heap[pt]? = some (.cells ten 55)) (hq : wr.heap[q]? = some (.cells cur t fr)) (ht : t ≠ 55) : pt ≠ q := fun e => by
  rw [← e, h] at hq
  injection hq with hq
  injection hq with _ hq
  exact ht hq.symm
theorem newB_name {ls : List Lt} {cs : List (List Int)} {n : Nat} {ds : List Dy} {x : ByteArray} (h : ((newB ls ((cs.take n).map caC1) ds).crit x).isSome) : x.size ≤ 1000 := by
  obtain ⟨c, hc⟩ := Option.isSome_iff_exists.1 h
  have h1 : ((cs.take n).map caC1).find? (fun c => decide (c.kind = 1 ∧ c.name = x)) = some c := hc
  have h2 := List.find?_some h1
  have h3 := List.mem_of_find?_eq_some h1
  obtain ⟨z, -, rfl⟩ := List.mem_map.1 h3
  have h4 := (of_decide_eq_true h2).2
  rw [← h4]
  exact nameB_size _
end Go.Proofs.YtnplnfkmcfalhaaGreatDoor
