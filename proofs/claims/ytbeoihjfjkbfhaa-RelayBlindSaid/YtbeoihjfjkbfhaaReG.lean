/-
  What a relay gives out, as a function; the number of askers. Plain.
-/
import Derived.Test.YtbeoihjfjkbfhaaReF
namespace Go.Proofs.Ytbeoihjfjkbfhaa
set_option linter.unusedVariables false
set_option linter.unusedSimpArgs false
open Go.RowKit
/-- A list without what comes again. -/
def dis : List Int → List Int
  | [] => []
  | x :: l => if x ∈ l then dis l else x :: dis l
theorem mem_dis {x : Int} : ∀ {l : List Int}, x ∈ dis l ↔ x ∈ l
  | [] => Iff.rfl
  | y :: l => by
    unfold dis
    by_cases h : y ∈ l
    · rw [if_pos h, mem_dis]
      constructor
      · exact fun h => List.mem_cons_of_mem _ h
      · intro h2
        rcases List.mem_cons.1 h2 with rfl | h2
        · exact h
        · exact h2
    · rw [if_neg h, List.mem_cons, List.mem_cons, mem_dis]
theorem nodup_dis : ∀ l : List Int, (dis l).Nodup
  | [] => List.Pairwise.nil
  | y :: l => by
    unfold dis
    by_cases h : y ∈ l
    · rw [if_pos h]; exact nodup_dis l
    · rw [if_neg h]; exact List.nodup_cons.2 ⟨fun h2 => h (mem_dis.1 h2), nodup_dis l⟩
theorem nodup_le {α : Type} [DecidableEq α] : ∀ {l m : List α}, l.Nodup → (∀ x ∈ l, x ∈ m) → l.length ≤ m.length
  | [], _, _, _ => Nat.zero_le _
  | x :: l, m, hn, hs => by
    have hx := hs x List.mem_cons_self
    rw [List.nodup_cons] at hn
    have := nodup_le (m := m.erase x) hn.2 (fun y hy => (List.mem_erase_of_ne (fun e => hn.1 (by rw [← e]; exact hy))).2 (hs y (List.mem_cons_of_mem _ hy)))
    rw [List.length_erase_of_mem hx] at this
    have := List.length_pos_of_mem hx
    simp only [List.length_cons]
    omega
theorem len_dis {k l : List Int} (hk : k.Nodup) (h : ∀ x, x ∈ k ↔ x ∈ l) : k.length = (dis l).length :=
  Nat.le_antisymm (nodup_le hk fun x hx => mem_dis.2 ((h x).1 hx)) (nodup_le (nodup_dis l) fun x hx => (h x).2 (mem_dis.1 hx))
def dueL (r : Rl) (due : Int → Bool) : List (Qn × Int) := r.l.filter fun p => due p.2
def whos (l : List (Qn × Int)) : List Int := l.map fun p => p.1.who
def texts (l : List (Qn × Int)) : List ByteArray := l.map fun p => p.1.text
open Classical in
/-- The batch that is given out, if there is one, and the relay then. -/
noncomputable def giveF (r : Rl) (due : Int → Bool) : Option (List ByteArray) × Rl :=
  if ((dis (whos (dueL r due))).length : Int) < max r.least 1 then (none, r) else (some (srtT (texts (dueL r due))), { r with l := r.l.filter fun p => !due p.2 })
/-- A batch in memory, all of it from n on. -/
def BatR (n : Nat) (w : World) (v : Value) : Option (List ByteArray) → Prop
  | none => v = .slice none 0 0
  | some ts => ∃ g u, v = .slice (some ⟨g, 0, none⟩) 1 1 ∧ n ≤ g ∧ w.heap[g]? = some (.cells #[u] 38) ∧ w.ownsRow n 9 1 u ts.length (ts.flatMap celS)
theorem BatR.ext {n : Nat} {w w' : World} {v : Value} {o : Option (List ByteArray)} (h : BatR n w v o) (x : Ext w w') : BatR n w' v o := by
  cases o with
  | none => exact h
  | some ts =>
    obtain ⟨g, u, h1, h2, h3, h4⟩ := h
    exact ⟨g, u, h1, h2, (x.block _ (Rg.lt_of_heap h3)).trans h3, row_ext h4 x⟩
/-- The set of askers while the loop runs. -/
theorem who_step {due : Int → Bool} {pre post : List (Qn × Value)} {x : Qn} {v : Value} {ks ws : List Int} (h : ∀ k, (k ∈ ks ∨ k ∈ ((pre ++ (x, v) :: post).filter (dueV due)).map (fun p => p.1.who)) ↔ k ∈ ws) :
    ∀ k, ((if dueV due (x, v) = true then k = x.who ∨ k ∈ ks else k ∈ ks) ∨ k ∈ ((pre ++ post).filter (dueV due)).map (fun p => p.1.who)) ↔ k ∈ ws := by
  intro k
  rw [← h k]
  simp only [List.filter_append, List.filter_cons, List.map_append, List.mem_append]
  by_cases hd : dueV due (x, v) = true
  · simp only [hd, if_true, List.map_cons, List.mem_cons]
    constructor
    · rintro ((rfl | h) | h | h)
      · exact .inr (.inr (.inl rfl))
      · exact .inl h
      · exact .inr (.inl h)
      · exact .inr (.inr (.inr h))
    · rintro (h | h | rfl | h)
      · exact .inl (.inr h)
      · exact .inr (.inl h)
      · exact .inl (.inl rfl)
      · exact .inr (.inr h)
  · simp only [hd, if_false, Bool.false_eq_true]
theorem mapL_whos (due : Int → Bool) (l : List (Qn × Int)) : ((mapL l).filter (dueV due)).map (fun p => p.1.who) = whos (l.filter fun p => due p.2) := by
  unfold mapL whos
  rw [List.filter_map, List.map_map]
  rfl
end Go.Proofs.Ytbeoihjfjkbfhaa
