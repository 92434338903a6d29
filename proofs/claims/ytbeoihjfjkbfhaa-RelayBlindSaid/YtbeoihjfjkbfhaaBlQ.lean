/-
  A row of acts that the law makes; asking keeps it. Nothing is asked.
-/
import Derived.Test.YtbeoihjfjkbfhaaBlP
import Derived.Test.YtbeoihjfjkbfhaaLawA
namespace Go.Proofs.Ytbeoihjfjkbfhaa
set_option linter.unusedVariables false
set_option linter.unusedSimpArgs false
open Go.RowKit
structure A4 where
  a : Int
  b : Int
  c : Int
  d : Int
def A4.cs (x : A4) : List Value := [.int .i64 x.a, .int .i64 x.b, .int .i64 x.c, .int .i64 x.d]
def A4.ok (x : A4) : Prop := OkI x.b ∧ OkI x.d
def A4.q (x : A4) : Qn := ⟨x.b % 6, txtF x.d⟩
theorem append_a {ops : Array Oper} {rest : List Oper} {o : Oper} {a : Act} {Q : Exit → Act → World → Prop} {w : World} (hgd : o.guard = none) (s x : Operand)
    (ho : o.op = .call { callee := .builtin .append, args := #[s, x], argTypes := #[22, 22] }) (B : Nat) (v : Value) (zs : List A4) (hs : a.eval s = v) (hF : w.ownsRow B 46 4 v zs.length (zs.flatMap A4.cs))
    (p : Nat) (i : A4) (hx : a.eval x = .slice (some ⟨p, 0, none⟩) 1 1) (hp : w.heap[p]? = some (.cells #[.int .i64 i.a, .int .i64 i.b, .int .i64 i.c, .int .i64 i.d] 46)) (hn : zs.length < 1000000) (hB : B ≤ w.heap.size)
    (h : ∀ g cap w', w'.ownsRow B 46 4 (.slice (some ⟨g, 0, none⟩) (zs.length + 1) cap) (zs ++ [i]).length ((zs ++ [i]).flatMap A4.cs) → Below B w w' → wpList Try.prog ops Q rest (a.put o.dst (.slice (some ⟨g, 0, none⟩) (zs.length + 1) cap)) w') : wpList Try.prog ops Q (o :: rest) a w :=
  append_one (cs := A4.cs) (z := .agg #[.int .i64 0, .int .i64 0, .int .i64 0, .int .i64 0]) (fun _ => ⟨rfl, by simp [A4.cs, Value.oneCell']⟩) 22 46 32 Try.underlying22 (by kernel_rfl) (by rfl) (by decide) (by decide) hgd s x ho B v zs hs hF p i hx hp hn hB h
/-- The row, from n on. -/
def LB (n : Nat) (w : World) (v : Value) (l : List A4) : Prop :=
  ∃ A c, v = .slice A l.length c ∧ (l = [] ∨ ∃ g cur, A = some ⟨g, 0, none⟩ ∧ n ≤ g ∧ w.heap[g]? = some (.cells cur 46) ∧ ∀ k (h : k < l.length) j u, (A4.cs l[k])[j]? = some u → cur[k * 4 + j]? = some u)
theorem LB.of_row {n : Nat} {w : World} {v : Value} {l : List A4} (h : w.ownsRow n 46 4 v l.length (l.flatMap A4.cs)) : LB n w v l := by
  rcases h.2 with ⟨rfl, h0⟩ | ⟨g, cap, cur, rfl, h1, h2, h3, h4, h5, h6⟩
  · obtain rfl : l = [] := List.eq_nil_of_length_eq_zero h0
    exact ⟨none, 0, rfl, .inl rfl⟩
  · refine ⟨_, _, rfl, .inr ⟨g, cur, rfl, h1, h2, fun k hk j u hu => ?_⟩⟩
    have h7 := flat_get (cs := A4.cs) (sz := 4) l (fun _ _ => rfl) k hk j u hu
    rw [← h6, List.getElem?_take] at h7
    split at h7
    · simpa using h7
    · cases h7
theorem LB.form {n : Nat} {w : World} {v : Value} {l : List A4} (h : LB n w v l) : ∃ A c, v = .slice A l.length c := by
  obtain ⟨A, c, h, -⟩ := h
  exact ⟨A, c, h⟩
theorem LB.keep {n p : Nat} {w w' : World} {v : Value} {l : List A4} (h : LB n w v l) (hk : K1 p w w') (hp : p < n) : LB n w' v l := by
  obtain ⟨A, c, h1, h2⟩ := h
  exact ⟨A, c, h1, h2.imp id fun ⟨g, cur, e1, e2, e3, e4⟩ => ⟨g, cur, e1, e2, hk _ _ _ _ (by omega) e3, e4⟩⟩
theorem LB.ext {n : Nat} {w w' : World} {v : Value} {l : List A4} (h : LB n w v l) (x : Ext w w') : LB n w' v l := by
  obtain ⟨A, c, h1, h2⟩ := h
  exact ⟨A, c, h1, h2.imp id fun ⟨g, cur, e1, e2, e3, e4⟩ => ⟨g, cur, e1, e2, (x.block _ (Rg.lt_of_heap e3)).trans e3, e4⟩⟩
theorem LB.at {n m c : Nat} {w : World} {A : Option Addr} {l : List A4} (h : LB n w (.slice A m c) l) (k : Nat) (hk : k < l.length) :
    ∃ g, A = some ⟨g, 0, none⟩ ∧ g < w.heap.size ∧ w.cell? ⟨g, k * 4 + 1, none⟩ = some (.int .i64 l[k].b) ∧ w.cell? ⟨g, k * 4 + 3, none⟩ = some (.int .i64 l[k].d) := by
  obtain ⟨A', c', h1, h2⟩ := h
  injection h1 with e1 e2 e3
  subst e1
  obtain ⟨g, cur, e1, e2, e3, e4⟩ := h2.resolve_left (by intro e; rw [e] at hk; simp at hk)
  refine ⟨g, e1, Rg.lt_of_heap e3, ?_, ?_⟩
  · rw [cell_of_row _ _ _ _ _ _ e3]
    exact e4 k hk 1 _ rfl
  · rw [cell_of_row _ _ _ _ _ _ e3]
    exact e4 k hk 3 _ rfl
theorem R2.ask2 {B : Nat} {w : World} {p1 p2 : Nat} {r1 r2 : Rl} (h : R2 B w p1 p2 r1 r2) (q : Qn) (t : Int) (hw : OkI q.who) (ht : OkI t) :
    Calls Try.prog 20 #[.pointer (some ⟨p1, 0, none⟩), .int .i64 q.who, .int .i64 t, .string q.text] w fun e w' => e = .returned (.int .i64 (askE r1 q t)) ∧ R2 B w' p1 p2 (askR r1 q t) r2 ∧ Below B w w' ∧ K1 p1 w w' := by
  obtain ⟨h0, h1, m1, m2, h2, h3, h4⟩ := h
  refine (ask_any p1 m1 r1 q t w h2 h0 hw ht).mono ?_
  rintro e w' ⟨e1, m1', k1, k2, k3⟩
  refine ⟨e1, ⟨Nat.le_trans h0 k2.size, h1, m1', m2, k1, h3.other h2 k2 h1.symm (fun b e2 e3 => h4 b e3 e2), fun b e2 e3 => ?_⟩, k2.below h0 h2.at_ fun b e => (h2.map.lt b e).1, k2.k1 h2⟩
  rcases k3 with rfl | ⟨b', rfl, hb'⟩
  · exact h4 b e2 e3
  · injection e2 with e2
    subst e2
    have := (h3.map.lt _ e3).2
    omega
end Go.Proofs.Ytbeoihjfjkbfhaa
