/-
  Each question is given out at most once. Plain; and rows of acts.
-/
import Derived.Test.YtbeoihjfjkbfhaaLawA
namespace Go.Proofs.Ytbeoihjfjkbfhaa
set_option linter.unusedVariables false
set_option linter.unusedSimpArgs false
open Go.RowKit
structure OI (need : Int) (r : Rl) (acc giv : Nat) : Prop where
  least : r.least = need
  closed : r.closed = false
  sum : acc = giv + r.l.length
theorem OI.ask {need : Int} {r : Rl} {acc giv : Nat} (h : OI need r acc giv) (q : Qn) (t : Int) : OI need (askR r q t) (if askE r q t = 0 then acc + 1 else acc) giv := by
  unfold askR
  by_cases h0 : askE r q t = 0
  · rw [if_pos h0, if_pos h0]
    refine ⟨h.least, h.closed, ?_⟩
    have := h.sum
    simp [Rl.asked]
    omega
  · rw [if_neg h0, if_neg h0]
    exact h
theorem filter_len {α : Type} (p : α → Bool) : ∀ l : List α, (l.filter p).length + (l.filter fun x => !p x).length = l.length
  | [] => rfl
  | x :: l => by
    have := filter_len p l
    cases h : p x <;> simp [h] <;> omega
theorem dis_le : ∀ l : List Int, (dis l).length ≤ l.length
  | [] => Nat.le_refl _
  | x :: l => by
    have := dis_le l
    unfold dis
    split <;> simp <;> omega
theorem give_cases {need : Int} {r : Rl} {acc giv : Nat} (h : OI need r acc giv) (due : Int → Bool) :
    ((giveF r due).1 = none ∧ OI need (giveF r due).2 acc giv) ∨ ∃ ts, (giveF r due).1 = some ts ∧ need ≤ (ts.length : Int) ∧ 1 ≤ ts.length ∧ giv + ts.length ≤ acc ∧ OI need (giveF r due).2 acc (giv + ts.length) := by
  unfold giveF
  by_cases hc : ((dis (whos (dueL r due))).length : Int) < max r.least 1
  · rw [if_pos hc]
    exact .inl ⟨rfl, h⟩
  · rw [if_neg hc]
    have h1 := dis_le (whos (dueL r due))
    have h2 : (whos (dueL r due)).length = (dueL r due).length := by simp [whos]
    have h3 : (srtT (texts (dueL r due))).length = (dueL r due).length := by rw [srtT_len]; simp [texts]
    have h4 := filter_len (fun p : Qn × Int => due p.2) r.l
    have h5 := h.sum
    have h6 := h.least
    have h7 : (dueL r due).length = (r.l.filter fun p => due p.2).length := rfl
    refine .inr ⟨_, rfl, by rw [h3]; omega, by rw [h3]; omega, by rw [h3]; omega, h.least, h.closed, ?_⟩
    show acc = _ + (r.l.filter fun p => !due p.2).length
    rw [h3]
    omega
theorem tick_cases {need : Int} {r : Rl} {acc giv : Nat} (h : OI need r acc giv) (t : Int) :
    ((tickF r t).1 = none ∧ OI need (tickF r t).2 acc giv) ∨ ∃ ts, (tickF r t).1 = some ts ∧ need ≤ (ts.length : Int) ∧ 1 ≤ ts.length ∧ giv + ts.length ≤ acc ∧ OI need (tickF r t).2 acc (giv + ts.length) := by
  unfold tickF
  split
  · exact .inl ⟨rfl, h⟩
  · exact give_cases (r := { r with last := t, timed := true }) ⟨h.least, h.closed, h.sum⟩ _
theorem close_cases {need : Int} {r : Rl} {acc giv : Nat} (h : OI need r acc giv) :
    (closeF r).2.l = [] ∧ ((closeF r).1 = none ∨ ∃ ts, (closeF r).1 = some ts ∧ 1 ≤ ts.length ∧ giv + ts.length ≤ acc) := by
  unfold closeF
  rw [if_neg (by rw [h.closed]; decide)]
  refine ⟨rfl, ?_⟩
  rcases give_cases h (fun _ => true) with ⟨h1, -⟩ | ⟨ts, h1, -, h2, h3, -⟩
  · exact .inl h1
  · exact .inr ⟨ts, h1, h2, h3⟩
theorem batch_form {n : Nat} {w : World} {v : Value} {ts : List ByteArray} (h : BatR n w v (some ts)) : ∃ g a c, v = .slice (some ⟨g, 0, none⟩) 1 1 ∧ g < w.heap.size ∧ w.cell? ⟨g, 0, none⟩ = some (.slice a ts.length c) := by
  obtain ⟨g, u, h1, h2, h3, h4⟩ := h
  obtain ⟨a, c, rfl⟩ := row_slice h4
  exact ⟨g, a, c, h1, Rg.lt_of_heap h3, cell_of_row _ _ 0 _ _ _ h3⟩
theorem mod_x (n m : Int) (hm : 0 < m) (hm2 : m ≤ 1000000) (h : OkI n) (w : World) :
    Calls Try.prog 24 #[.int .i64 n, .int .i64 m] w fun e w' => e = .returned (.int .i64 (n % m)) ∧ Ext w w' :=
  (mod_any n m hm hm2 h w).mono fun _ _ ⟨a, b⟩ => ⟨a, b ▸ Ext.refl _⟩
theorem act_at {w : World} {A : Option Addr} {l c : Nat} {ls : List (List Int)} (h : RN 4 w (.slice A l c) ls) (k : Nat) (hk : k < ls.length) :
    ∃ b off q0 q1 q2 q3, A = some ⟨b, off, none⟩ ∧ b < w.heap.size ∧ w.cell? ⟨b, off + k * 4, none⟩ = some (.int .i64 q0) ∧ w.cell? ⟨b, off + k * 4 + 1, none⟩ = some (.int .i64 q1) ∧ w.cell? ⟨b, off + k * 4 + 2, none⟩ = some (.int .i64 q2) ∧ w.cell? ⟨b, off + k * 4 + 3, none⟩ = some (.int .i64 q3) ∧ OkI q0 ∧ OkI q1 ∧ OkI q2 ∧ OkI q3 ∧ ls[k] = [q0, q1, q2, q3] := by
  obtain ⟨b, off, h1, h2, h3⟩ := h.at k hk
  have h4 : ls[k].length = 4 := by
    obtain ⟨-, -, -, -, h5, -⟩ := h
    exact (h5 _ (List.getElem_mem _)).1
  have h0 := h2 0 (by decide)
  refine ⟨b, off, _, _, _, _, h1, World.block_lt_of_cell? w _ h0, h0, h2 1 (by decide), h2 2 (by decide), h2 3 (by decide), h3 0, h3 1, h3 2, h3 3, ?_⟩
  match hls : ls[k], h4 with
  | [a, b, c, d], _ => rfl
end Go.Proofs.Ytbeoihjfjkbfhaa
