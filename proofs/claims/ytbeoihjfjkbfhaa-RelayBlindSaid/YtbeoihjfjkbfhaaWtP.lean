/-
  Few askers: nothing is given out. Plain; and Same of two batches.
-/
import Derived.Test.YtbeoihjfjkbfhaaReM
namespace Go.Proofs.Ytbeoihjfjkbfhaa
set_option linter.unusedVariables false
set_option linter.unusedSimpArgs false
open Go.RowKit
theorem same_any {n1 n2 : Nat} (v1 v2 : Value) (o1 o2 : Option (List ByteArray)) (w : World) (h1 : BatR n1 w v1 o1) (h2 : BatR n2 w v2 o2) (l1 : ∀ ts, o1 = some ts → ts.length ≤ 1000000) (l2 : ∀ ts, o2 = some ts → ts.length ≤ 1000000) :
    Calls Try.prog 15 #[v1, v2] w fun e w' => e = .returned (.bool (decide (o1 = o2))) ∧ Ext w w' := by
  cases o1 with
  | none =>
    have e1 : v1 = .slice none 0 0 := h1
    subst e1
    cases o2 with
    | none =>
      have e2 : v2 = .slice none 0 0 := h2
      subst e2
      simpa using same_none w
    | some ts =>
      obtain ⟨g, u, rfl, -⟩ := h2
      simpa using same_n1 (some ⟨g, 0, none⟩) w
  | some ts =>
    obtain ⟨g1, u1, rfl, a1, a2, a3⟩ := h1
    cases o2 with
    | none =>
      have e2 : v2 = .slice none 0 0 := h2
      subst e2
      simpa using same_1n (some ⟨g1, 0, none⟩) w
    | some ts2 =>
      obtain ⟨g2, u2, rfl, b1, b2, b3⟩ := h2
      have h := same_some g1 g2 u1 u2 ts ts2 w (cell_of_row _ _ 0 _ _ _ a2) (cell_of_row _ _ 0 _ _ _ b2) (SR.of_row (cs := celS) (fun _ => rfl) a3 (l1 _ rfl)) (SR.of_row (cs := celS) (fun _ => rfl) b3 (l2 _ rfl))
      have e : decide (some ts = some ts2) = decide (ts = ts2) := by simp
      rw [e]
      exact h
structure WI (need n : Int) (r : Rl) : Prop where
  least : r.least = need
  every : r.every = 1
  closed : r.closed = false
  who : ∀ p ∈ r.l, 0 ≤ p.1.who ∧ p.1.who < n
theorem WI.ask {need n : Int} {r : Rl} (h : WI need n r) (q : Qn) (t : Int) (h1 : 0 ≤ q.who) (h2 : q.who < n) : WI need n (askR r q t) := by
  unfold askR
  split
  · refine ⟨h.least, h.every, h.closed, fun p hp => ?_⟩
    rcases List.mem_append.1 hp with hp | hp
    · exact h.who p hp
    · rw [List.mem_singleton] at hp
      subst hp
      exact ⟨h1, h2⟩
  · exact h
theorem dis_few {n : Int} {L : List (Qn × Int)} (h : ∀ p ∈ L, 0 ≤ p.1.who ∧ p.1.who < n) (hn : 0 ≤ n) : ((dis (whos L)).length : Int) ≤ n := by
  have h1 := nodup_le (m := (List.range n.toNat).map (fun k : Nat => (k : Int))) (nodup_dis (whos L)) (fun x hx => by
    obtain ⟨p, hp, rfl⟩ := List.mem_map.1 (mem_dis.1 hx)
    have := h p hp
    exact List.mem_map.2 ⟨p.1.who.toNat, by simp; omega, by omega⟩)
  simp at h1
  omega
theorem give_few {need n : Int} {r : Rl} (h : WI need n r) (hn : 0 ≤ n) (hl : n < need) (due : Int → Bool) : giveF r due = (none, r) := by
  unfold giveF
  rw [if_pos]
  have := dis_few (L := dueL r due) (fun p hp => h.who p (List.mem_filter.1 hp).1) hn
  rw [h.least]
  omega
theorem tick_few {need n : Int} {r : Rl} (h : WI need n r) (hn : 0 ≤ n) (hl : n < need) (t : Int) : (tickF r t).1 = none ∧ WI need n (tickF r t).2 := by
  unfold tickF
  split
  · exact ⟨rfl, h⟩
  · have h2 : WI need n { r with last := t, timed := true } := ⟨h.least, h.every, h.closed, h.who⟩
    rw [give_few h2 hn hl]
    exact ⟨rfl, h2⟩
theorem close_few {need n : Int} {r : Rl} (h : WI need n r) (hn : 0 ≤ n) (hl : n < need) : (closeF r).1 = none ∧ (closeF r).2.l = [] := by
  unfold closeF
  rw [if_neg (by rw [h.closed]; decide), give_few h hn hl]
  exact ⟨rfl, rfl⟩
theorem ird_at {w : World} {base : Option Addr} {n c : Nat} {ls : List Int} (h : IRd w (.slice base n c) ls) (k : Nat) (hk : k < ls.length) :
    ∃ b off, base = some ⟨b, off, none⟩ ∧ b < w.heap.size ∧ w.cell? ⟨b, off + k, none⟩ = some (.int .i64 ls[k]) ∧ OkI ls[k] := by
  obtain ⟨A, cap, h1, h2, h3, h4⟩ := h
  injection h1 with e1 e2 e3
  subst e1
  obtain ⟨b, off, hb, hc⟩ := h4.resolve_left (by intro e; rw [e] at hk; simp at hk)
  exact ⟨b, off, hb, World.block_lt_of_cell? w _ (hc k hk), hc k hk, h3 _ (List.getElem_mem _)⟩
end Go.Proofs.Ytbeoihjfjkbfhaa
