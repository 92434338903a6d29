/-
  'append' of rows; the chain of InterestNear. Nothing is asked.
-/
import Derived.Test.YtlekdhhgjhakgaaJnE
namespace Go.Proofs.Ytlekdhhgjhakgaa
set_option linter.unusedVariables false
set_option linter.unusedSimpArgs false
open Go.RowKit
theorem flat_len {α : Type} {cs : α → List Value} {sz : Nat} (hc1 : ∀ u, (cs u).length = sz) : ∀ us : List α, (us.flatMap cs).length = us.length * sz
  | [] => by simp
  | u :: us => by rw [List.flatMap_cons, List.length_append, flat_len hc1 us, hc1 u, List.length_cons, Nat.add_mul, Nat.one_mul, Nat.add_comm]
theorem append_rows {α : Type} {cs : α → List Value} {sz : Nat} (T E bytes : Nat) {z : Value} (hT : Try.prog.underlying T = some (.slice E))
    (hinfo : (Try.prog.info? E).map (fun i => (i.zero, i.size, i.bytes)) = some (some z, sz, bytes)) (hz : z.cells.size = sz) (h0 : 0 < sz) (hby : bytes ≤ 100000)
    {ops : Array Oper} {rest : List Oper} {o : Oper} {a : Act} {Q : Exit → Act → World → Prop} {w : World} (hgd : o.guard = none) (s x : Operand)
    (ho : o.op = .call { callee := .builtin .append, args := #[s, x], argTypes := #[T, T] }) (B : Nat) (v : Value) (vs : List α) (hs : a.eval s = v) (hF : w.ownsRow B E sz v vs.length (vs.flatMap cs))
    (hc1 : ∀ u, (cs u).length = sz ∧ ∀ c ∈ cs u, c.oneCell' = true)
    (A : Option Addr) (c : Nat) (us : List α) (hx : a.eval x = .slice A us.length c) (hu : us = [] ∨ ∃ b off, A = some ⟨b, off, none⟩ ∧ ∀ j u, (us.flatMap cs)[j]? = some u → w.cell? ⟨b, off + j, none⟩ = some u)
    (hn : vs.length + us.length ≤ 1000000) (hB : B ≤ w.heap.size)
    (h : ∀ v' w', w'.ownsRow B E sz v' (vs ++ us).length ((vs ++ us).flatMap cs) → w.grownBy w' v.ownBlock → wpList Try.prog ops Q rest (a.put o.dst v') w') : wpList Try.prog ops Q (o :: rest) a w := by
  obtain ⟨i0, hi, hz0, hz1, hz2⟩ := info_parts hinfo
  refine wpList_plain hgd fun K hK => ?_
  by_cases h0' : us = []
  · subst h0'
    obtain ⟨base, cap, hv, hle⟩ : ∃ base cap, v = .slice base vs.length cap ∧ vs.length ≤ cap := by
      rcases hF.2 with ⟨hn, h0⟩ | ⟨g, cap', cur, hv, hb, hg, h1, h2, h3, h4⟩
      · exact ⟨none, 0, by rw [hn, h0], by omega⟩
      · exact ⟨_, cap', hv, h1⟩
    have hsrc : Src Try.prog i0.size T (.slice A 0 c) 0 [] w := by
      rw [hz1]
      cases A with
      | none => exact Src.ofNil w hT c
      | some a => exact Src.ofSlice w hT a 0 c _ (by simp) (by simp) (by simp)
    have hr := run_append_nothing (P := Try.prog) w T T o.type E i0 hT hi base vs.length cap hle (.slice A 0 c) hsrc
    rw [← hv] at hr
    unfold Oper.wp execOp
    simp only [List.length_nil] at hx
    simp only [ho, resolve, invoke, builtin, Sem.run_bind, Sem.run_pure, Result.andThen_ok, List.map_toArray, List.map_cons, List.map_nil, hs, hx, hr]
    exact hK _ _ (h v w (by simpa using hF) ⟨rfl, rfl, rfl, Nat.le_refl _, fun _ _ _ => rfl⟩)
  · obtain ⟨b, off, rfl, hcell⟩ := hu.resolve_left h0'
    have hpos : 0 < us.length := List.length_pos_iff.2 h0'
    have hby2 : (vs.length + us.length) * bytes ≤ 1000000 * 100000 := Nat.mul_le_mul (by omega) hby
    obtain ⟨g, cap', w', hr, h2, h3, h4, h5⟩ := run_append_lies (P := Try.prog) w T o.type B E i0 _ sz bytes hT hi hz0 hz1 hz2 hz h0 v vs.length _ hF ⟨b, off, none⟩ us.length c (us.flatMap cs) (flat_len (fun u => (hc1 u).1) us)
      (by
        intro j u hu
        rw [Go.WideShapes.add_plain]
        exact hcell j u hu) (by intro u hu; obtain ⟨z, -, hz⟩ := List.mem_flatMap.1 hu; exact (hc1 z).2 u hz) hpos (by unfold maxLen; omega) (by omega) hB w.heap.size rfl
    unfold Oper.wp execOp
    simp only [ho, resolve, invoke, builtin, Sem.run_bind, Sem.run_pure, Result.andThen_ok, List.map_toArray, List.map_cons, List.map_nil, hs, hx, hr] at *
    refine hK _ w' (h _ w' ?_ h3)
    rw [List.flatMap_append, List.length_append]
    exact h2
theorem own_src {B E sz n : Nat} {w : World} {A : Option Addr} {c : Nat} {xs : List Value} (h : w.ownsRow B E sz (.slice A n c) n xs) : n = 0 ∨ ∃ b off, A = some ⟨b, off, none⟩ ∧ ∀ j u, xs[j]? = some u → w.cell? ⟨b, off + j, none⟩ = some u := by
  have h' := h
  rcases h.2 with ⟨hn, h0⟩ | ⟨g, cap, cur, hv, hb, hg, h1, h2, h3, h4⟩
  · exact .inl h0
  · injection hv with e1 e2 e3
    subst e1
    refine .inr ⟨g, 0, rfl, fun j u hj => ?_⟩
    have hl : j < n * sz := h.1 ▸ (List.getElem?_eq_some_iff.1 hj).1
    rw [Nat.zero_add, World.ownsRow.cellAt h' j hl, hj]
def stepR (t : Nat → Bool) (i : Nat) : Int × Int := if t i then ((i : Int) + 2, (i : Int) + 1) else ((i : Int) + 1, (i : Int) + 2)
def nearR (t : Nat → Bool) : Nat → List (Int × Int)
  | 0 => []
  | i + 1 => stepR t i :: nearR t i
theorem nearR_len (t : Nat → Bool) : ∀ i, (nearR t i).length = i
  | 0 => rfl
  | i + 1 => by rw [nearR, List.length_cons, nearR_len t i]
theorem near_mem (t u : Nat → Bool) (a b : Int) : ∀ i, ((a, b) ∈ nearR t i ∨ (b, a) ∈ nearR t i) → ((a, b) ∈ nearR u i ∨ (b, a) ∈ nearR u i)
  | 0, h => by simp [nearR] at h
  | i + 1, h => by
    have key : ((a, b) = stepR t i ∨ (b, a) = stepR t i) → ((a, b) = stepR u i ∨ (b, a) = stepR u i) := by
      unfold stepR
      cases t i <;> cases u i <;> simp only [Bool.false_eq_true, if_false, if_true, Prod.mk.injEq] <;> omega
    simp only [nearR, List.mem_cons] at h ⊢
    rcases h with (h | h) | (h | h)
    · exact (key (.inl h)).imp .inl .inl
    · exact (near_mem t u a b i (.inl h)).imp .inr .inr
    · exact (key (.inr h)).imp .inl .inl
    · exact (near_mem t u a b i (.inr h)).imp .inr .inr
theorem near_cir (t : Nat → Bool) (n : Nat) (p x : Int) : cirF (nearR t n) p x = cirF (nearR (fun _ => false) n) p x := cirF_eq (fun a b => ⟨near_mem _ _ a b n, near_mem _ _ a b n⟩) p x
def nearS (t : Nat → Bool) (n : Nat) (y : Int) : Su := ⟨[], [⟨(n : Int) + 1, 99, y⟩], nearR t n⟩
theorem nearR_ok (t : Nat → Bool) : ∀ n, n ≤ 100 → ∀ r ∈ nearR t n, OkI r.1 ∧ OkI r.2
  | 0, _, r, h => by cases h
  | i + 1, hn, r, h => by
    rcases List.mem_cons.1 h with rfl | h
    · unfold stepR
      cases t i <;> exact ⟨okI_small ⟨by simp; omega, by simp; omega⟩, okI_small ⟨by simp; omega, by simp; omega⟩⟩
    · exact nearR_ok t i (by omega) r h
theorem near_okR (t : Nat → Bool) (n : Nat) (h : n ≤ 5) : (⟨[], [], nearR t n⟩ : Su).ok := ⟨fun p hp => (by cases hp), fun p hp => (by cases hp), nearR_ok t n (by omega), by simp, by simp, by show (nearR t n).length ≤ 1000; rw [nearR_len]; omega⟩
theorem near_ok (t : Nat → Bool) (n : Nat) (y : Int) (h : n ≤ 5) (hy : 0 ≤ y ∧ y ≤ 255) : (nearS t n y).ok := ⟨fun p hp => (by cases hp), fun p hp => by
  simp only [nearS, List.mem_singleton] at hp
  subst hp
  exact ⟨okI_small ⟨by simp only; omega, by simp only; omega⟩, okI_small (by simp), okI_small ⟨by simp only; omega, by simp only; omega⟩⟩, nearR_ok t n (by omega), by simp [nearS], by simp [nearS], by show (nearR t n).length ≤ 1000; rw [nearR_len]; omega⟩
def nearW (n : Nat) (y : Int) : Int := if n ≤ 2 ∧ 1 ≤ y ∧ y ≤ 100 then y else 0
theorem near_facts (t : Nat → Bool) (n : Nat) (y : Int) (h : n ≤ 5) :
    partsF (nearS t n y).hs 99 (cirF (nearS t n y).rs 1) = nearW n y ∧ confF (nearS t n y) 1 99 = decide (5 ≤ nearW n y) ∧ confF (nearS t n y) 1 ((n : Int) + 1) = decide (n ≤ 2) ∧ confF (nearS t n y) ((n : Int) + 1) 1 = decide (n ≤ 2) := by
  have hp : ∀ b f, partsF (nearS t n y).hs b f = if (99 : Int) = b ∧ (0 < y ∧ y ≤ 100) ∧ f ((n : Int) + 1) = true then y else 0 := by
    intro b f
    unfold partsF nearS countH
    simp only [List.foldl_cons, List.foldl_nil, Bool.and_eq_true, decide_eq_true_iff, beq_iff_eq, Int.zero_add]
    by_cases h1 : (99 : Int) = b <;> by_cases h2 : 0 < y <;> by_cases h3 : y ≤ 100 <;> cases f ((n : Int) + 1) <;> simp [h1, h2, h3]
  have hf : ∀ p x, cirF (nearS t n y).rs p x = cirF (nearR (fun _ => false) n) p x := near_cir t n
  have hq : cirF (nearR (fun _ => false) n) 1 ((n : Int) + 1) = decide (n ≤ 2) ∧ cirF (nearR (fun _ => false) n) 1 99 = false ∧ cirF (nearR (fun _ => false) n) ((n : Int) + 1) 1 = decide (n ≤ 2) := by
    obtain rfl | rfl | rfl | rfl | rfl | rfl : n = 0 ∨ n = 1 ∨ n = 2 ∨ n = 3 ∨ n = 4 ∨ n = 5 := by omega
    all_goals decide
  obtain ⟨q1, q2, q3⟩ := hq
  have h99 : ¬ (99 : Int) = (n : Int) + 1 := by omega
  have h98 : ¬ (99 : Int) = 1 := by decide
  have e1 : partsF (nearS t n y).hs 99 (cirF (nearS t n y).rs 1) = nearW n y := by
    rw [hp, hf, q1]
    unfold nearW
    by_cases h2 : n ≤ 2
    · simp only [h2, decide_true, true_and, and_true]
      by_cases h3 : 0 < y ∧ y ≤ 100
      · rw [if_pos h3, if_pos (by omega)]
      · rw [if_neg h3, if_neg (by omega)]
    · rw [if_neg (by simp [h2]), if_neg (by omega)]
  refine ⟨e1, ?_, ?_, ?_⟩
  · unfold confF
    rw [e1, hf, q2, Bool.false_or]
  · unfold confF
    rw [hp, hf, q1, if_neg (fun h => h99 h.1)]
    simp
  · unfold confF
    rw [hp, hf, q3, if_neg (fun h => h98 h.1)]
    simp
end Go.Proofs.Ytlekdhhgjhakgaa
