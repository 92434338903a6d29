/-
  Two relays beside each other. Nothing is asked.
-/
import Derived.Test.YtbeoihjfjkbfhaaOnP
namespace Go.Proofs.Ytbeoihjfjkbfhaa
set_option linter.unusedVariables false
set_option linter.unusedSimpArgs false
open Go.RowKit
/-- Two relays at p1 and p2, from B on, apart from each other. -/
structure R2 (B : Nat) (w : World) (p1 p2 : Nat) (r1 r2 : Rl) : Prop where
  base : B ≤ w.heap.size
  apart : p1 ≠ p2
  both : ∃ m1 m2, RW B w p1 m1 r1 ∧ RW B w p2 m2 r2 ∧ ∀ b, m1 = some b → m2 ≠ some b
theorem R2.symm {B : Nat} {w : World} {p1 p2 : Nat} {r1 r2 : Rl} (h : R2 B w p1 p2 r1 r2) : R2 B w p2 p1 r2 r1 := by
  obtain ⟨h0, h1, m1, m2, h2, h3, h4⟩ := h
  exact ⟨h0, h1.symm, m2, m1, h3, h2, fun b e1 e2 => h4 b e2 e1⟩
theorem R2.ext {B : Nat} {w w' : World} {p1 p2 : Nat} {r1 r2 : Rl} (h : R2 B w p1 p2 r1 r2) (x : Ext w w') : R2 B w' p1 p2 r1 r2 := by
  obtain ⟨h0, h1, m1, m2, h2, h3, h4⟩ := h
  exact ⟨Nat.le_trans h0 x.size, h1, m1, m2, h2.ext x, h3.ext x, h4⟩
theorem R2.both_ {B : Nat} {w : World} {p : Nat} {r0 : Rl} (h : RX B w p r0) {w' : World} {r : Rl} (hr : RX w.heap.size w' w.heap.size r) (x : Ext w w') : R2 B w' p w.heap.size r0 r := by
  obtain ⟨hB, m1, h1⟩ := h
  obtain ⟨hB2, m2, h2⟩ := hr
  refine ⟨Nat.le_trans hB x.size, Nat.ne_of_lt h1.lt, m1, m2, h1.ext x, ⟨Nat.le_trans hB h2.at_, h2.row, ?_, h2.ok⟩, fun b e1 e2 => ?_⟩
  · have hm := h2.map
    cases m2 with
    | none => exact hm
    | some b => exact ⟨Nat.le_trans hB hm.1, hm.2⟩
  · have := (h1.map.lt b e1).2
    have := (h2.map.lt b e2).1
    omega
/-- Cells that are not at p stay. -/
def K1 (p : Nat) (w w' : World) : Prop := ∀ k cs t fr, k ≠ p → w.heap[k]? = some (.cells cs t fr) → w'.heap[k]? = some (.cells cs t fr)
theorem KW.k1 {B p : Nat} {mb : Option Nat} {r : Rl} {w w' : World} (h : KW p mb w w') (hr : RW B w p mb r) : K1 p w w' := fun k cs t fr hk hc => by
  refine (h.block k (Rg.lt_of_heap hc) hk (fun e => ?_)).trans hc
  subst e
  obtain ⟨-, -, -, es, ck, hb, -⟩ := hr.map
  rw [hb] at hc
  cases hc
theorem BatR.k1 {n p : Nat} {w w' : World} {v : Value} {o : Option (List ByteArray)} (h : BatR n w v o) (hk : K1 p w w') (hp : p < n) : BatR n w' v o := by
  cases o with
  | none => exact h
  | some ts =>
    obtain ⟨g, u, h1, h2, h3, h4⟩ := h
    refine ⟨g, u, h1, h2, hk _ _ _ _ (by omega) h3, h4.1, h4.2.imp id ?_⟩
    rintro ⟨g, cp, cur, e1, e2, e3, e4⟩
    exact ⟨g, cp, cur, e1, e2, hk _ _ _ _ (by omega) e3, e4⟩
theorem R2.ask1 {B : Nat} {w : World} {p1 p2 : Nat} {r1 r2 : Rl} (h : R2 B w p1 p2 r1 r2) (q : Qn) (t : Int) (hw : OkI q.who) (ht : OkI t) :
    Calls Try.prog 20 #[.pointer (some ⟨p1, 0, none⟩), .int .i64 q.who, .int .i64 t, .string q.text] w fun e w' => e = .returned (.int .i64 (askE r1 q t)) ∧ R2 B w' p1 p2 (askR r1 q t) r2 ∧ Below B w w' := by
  obtain ⟨h0, h1, m1, m2, h2, h3, h4⟩ := h
  refine (ask_any p1 m1 r1 q t w h2 h0 hw ht).mono ?_
  rintro e w' ⟨e1, m1', k1, k2, k3⟩
  refine ⟨e1, ⟨Nat.le_trans h0 k2.size, h1, m1', m2, k1, h3.other h2 k2 h1.symm (fun b e2 e3 => h4 b e3 e2), fun b e2 e3 => ?_⟩, k2.below h0 h2.at_ fun b e => (h2.map.lt b e).1⟩
  rcases k3 with rfl | ⟨b', rfl, hb'⟩
  · exact h4 b e2 e3
  · injection e2 with e2
    subst e2
    have := (h3.map.lt _ e3).2
    omega
theorem R2.tick1 {B : Nat} {w : World} {p1 p2 : Nat} {r1 r2 : Rl} (h : R2 B w p1 p2 r1 r2) (t : Int) (ht : OkI t) :
    Calls Try.prog 16 #[.pointer (some ⟨p1, 0, none⟩), .int .i64 t] w fun e w' => ∃ v, e = .returned v ∧ BatR w.heap.size w' v (tickF r1 t).1 ∧ R2 B w' p1 p2 (tickF r1 t).2 r2 ∧ Below B w w' ∧ K1 p1 w w' := by
  obtain ⟨h0, h1, m1, m2, h2, h3, h4⟩ := h
  refine (tick_any p1 m1 r1 t w h2 ht).mono ?_
  rintro e w' ⟨v, e1, e2, k1, k2⟩
  exact ⟨v, e1, e2, ⟨Nat.le_trans h0 k2.size, h1, m1, m2, k1, h3.other h2 k2 h1.symm (fun b e2 e3 => h4 b e3 e2), h4⟩, k2.below h0 h2.at_ fun b e => (h2.map.lt b e).1, k2.k1 h2⟩
theorem R2.close1 {B : Nat} {w : World} {p1 p2 : Nat} {r1 r2 : Rl} (h : R2 B w p1 p2 r1 r2) :
    Calls Try.prog 18 #[.pointer (some ⟨p1, 0, none⟩)] w fun e w' => ∃ v, e = .returned v ∧ BatR w.heap.size w' v (closeF r1).1 ∧ R2 B w' p1 p2 (closeF r1).2 r2 ∧ Below B w w' ∧ K1 p1 w w' := by
  obtain ⟨h0, h1, m1, m2, h2, h3, h4⟩ := h
  refine (close_any p1 m1 r1 w h2).mono ?_
  rintro e w' ⟨v, e1, e2, ⟨m1', k1, k3⟩, k2⟩
  refine ⟨v, e1, e2, ⟨Nat.le_trans h0 k2.size, h1, m1', m2, k1, h3.other h2 k2 h1.symm (fun b e2 e3 => h4 b e3 e2), ?_⟩, k2.below h0 h2.at_ fun b e => (h2.map.lt b e).1, k2.k1 h2⟩
  rcases k3 with rfl | rfl
  · exact h4
  · exact fun b e => by cases e
theorem R2.wait1 {B : Nat} {w : World} {p1 p2 : Nat} {r1 r2 : Rl} (h : R2 B w p1 p2 r1 r2) (n : Nat) (hn : r1.l.length = n) :
    Calls Try.prog 22 #[.pointer (some ⟨p1, 0, none⟩)] w fun e w' => e = .returned (.int .i64 n) ∧ w' = w := by
  obtain ⟨h0, h1, m1, m2, h2, h3, h4⟩ := h
  subst hn
  exact waiting_any p1 m1 r1 w h2
/-- What lies behind both may be written. -/
theorem R2.keep {B : Nat} {w w' : World} {p1 p2 : Nat} {r1 r2 : Rl} (h : R2 B w p1 p2 r1 r2) (hs : w.heap.size ≤ w'.heap.size) (hk : ∀ k o, w.heap[k]? = some o → k = p1 ∨ k = p2 ∨ (∃ es c, o = .map es c) → w'.heap[k]? = some o) : R2 B w' p1 p2 r1 r2 := by
  obtain ⟨b0, h1, m1, m2, h2, h3, h4⟩ := h
  have hM : ∀ {mb l}, MQ B w mb l → MQ B w' mb l := fun {mb l} hm => hm.of_block fun b e => by
    subst e
    obtain ⟨-, -, -, es, ck, hb, -⟩ := hm
    rw [hb]
    exact hk b _ hb (.inr (.inr ⟨_, _, rfl⟩))
  exact ⟨Nat.le_trans b0 hs, h1, m1, m2, ⟨h2.at_, hk _ _ h2.row (.inl rfl), hM h2.map, h2.ok⟩, ⟨h3.at_, hk _ _ h3.row (.inr (.inl rfl)), hM h3.map, h3.ok⟩, h4⟩
theorem R2.wrote {B : Nat} {w : World} {p1 p2 g o : Nat} {r1 r2 : Rl} {cs : Array Value} {t : TypeId} {fr : Nat × Nat} (h : R2 B w p1 p2 r1 r2) (hg : w.heap[g]? = some (.cells cs t fr)) (h1 : g ≠ p1) (h2 : g ≠ p2) (v : Value) : R2 B (w.setCell ⟨g, o, none⟩ v) p1 p2 r1 r2 :=
  h.keep (by simp) fun k ob hk hc => by
    rw [heap_setCell_other _ ?_]
    · exact hk
    · rintro rfl
      rcases hc with rfl | rfl | ⟨es, c, rfl⟩
      · exact h1 rfl
      · exact h2 rfl
      · rw [hg] at hk
        cases hk
theorem R2.lt {B : Nat} {w : World} {p1 p2 : Nat} {r1 r2 : Rl} (h : R2 B w p1 p2 r1 r2) : B ≤ p1 ∧ p1 < w.heap.size ∧ B ≤ p2 ∧ p2 < w.heap.size := by
  obtain ⟨b0, h1, m1, m2, h2, h3, h4⟩ := h
  exact ⟨h2.at_, h2.lt, h3.at_, h3.lt⟩
theorem R2.len {B : Nat} {w : World} {p1 p2 : Nat} {r1 r2 : Rl} (h : R2 B w p1 p2 r1 r2) : r1.l.length ≤ 1000 ∧ r2.l.length ≤ 1000 := by
  obtain ⟨b0, h1, m1, m2, h2, h3, h4⟩ := h
  exact ⟨h2.ok.len, h3.ok.len⟩
theorem give_len {r : Rl} {due : Int → Bool} {ts : List ByteArray} (h : (giveF r due).1 = some ts) (hl : r.l.length ≤ 1000) : ts.length ≤ 1000000 := by
  unfold giveF at h
  split at h
  · cases h
  · injection h with h
    rw [← h, srtT_len]
    have : (dueL r due).length ≤ r.l.length := List.length_filter_le _ _
    simp [texts]
    omega
theorem give_pos {r : Rl} {due : Int → Bool} {ts : List ByteArray} (h : (giveF r due).1 = some ts) : 0 < ts.length := by
  unfold giveF at h
  split at h
  · cases h
  · rename_i hc
    injection h with h
    rw [← h, srtT_len]
    have h1 := dis_le (whos (dueL r due))
    simp [whos] at h1
    simp [texts]
    simp [whos] at hc
    omega
theorem tick_pos {r : Rl} {t : Int} {ts : List ByteArray} (h : (tickF r t).1 = some ts) : 0 < ts.length := by
  unfold tickF at h
  split at h
  · cases h
  · exact give_pos h
theorem tick_len {r : Rl} {t : Int} {ts : List ByteArray} (h : (tickF r t).1 = some ts) (hl : r.l.length ≤ 1000) : ts.length ≤ 1000000 := by
  unfold tickF at h
  split at h
  · cases h
  · exact give_len h hl
theorem close_len {r : Rl} {ts : List ByteArray} (h : (closeF r).1 = some ts) (hl : r.l.length ≤ 1000) : ts.length ≤ 1000000 := by
  unfold closeF at h
  split at h
  · cases h
  · exact give_len h hl
end Go.Proofs.Ytbeoihjfjkbfhaa
