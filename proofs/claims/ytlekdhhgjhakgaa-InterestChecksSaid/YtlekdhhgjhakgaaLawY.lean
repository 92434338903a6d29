/-
  The arguments of the laws of chapter 18, opened, with their capacities. Nothing is asked.
-/
import Derived.Test.YtlekdhhgjhakgaaJnE
namespace Go.Proofs.Ytlekdhhgjhakgaa
set_option linter.unusedVariables false
set_option linter.unusedSimpArgs false
open Go.RowKit Go.WideShapes Go.ChangeShapes
set_option maxRecDepth 100000
section
variable {H : Type} {enc : TypeId × Value → H} {W : World}
theorem slice_cap {t e : TypeId} {fuel : Nat} {A : Option Addr} {l c : Nat} {x : DataW H × List MemPlace} (ht : Try.prog.underlying t = some (.slice e)) (h : DataW.trod enc Try.prog W 0 (fun _ => true) true fuel t [.slice A l c] = some x) : l ≤ c := by
  rcases DataW.trod_slice ht h with ⟨e, -⟩ | ⟨a, len, cap, elems, rest, n, -, e, -, -, hl, -⟩
  · simp only [List.cons.injEq, Value.slice.injEq, and_true] at e
    omega
  · simp only [List.cons.injEq, Value.slice.injEq, and_true] at e
    omega
theorem open_holdsC {r : Go.Reach} {b0 : Nat} {v : Value} {d : DataW H} {ps : List MemPlace} (hval : Value.okWide Try.prog W r b0 23 v) (hd : DataW.Trod enc Try.prog W 0 (fun _ => true) true 23 v d ps) : ∃ ls A c, v = .slice A ls.length c ∧ ls.length ≤ c ∧ RN 3 W v ls := by
  obtain ⟨ls, hr⟩ := open_holds hval hd
  obtain ⟨A, c, e, -⟩ := hr.form
  obtain ⟨fuel, hf⟩ := hd
  subst e
  exact ⟨ls, A, c, rfl, slice_cap Try.underlying23 hf, hr⟩
theorem open_relsC {r : Go.Reach} {b0 : Nat} {v : Value} {d : DataW H} {ps : List MemPlace} (hval : Value.okWide Try.prog W r b0 24 v) (hd : DataW.Trod enc Try.prog W 0 (fun _ => true) true 24 v d ps) : ∃ ls A c, v = .slice A ls.length c ∧ ls.length ≤ c ∧ RN 2 W v ls := by
  obtain ⟨ls, hr⟩ := open_rels hval hd
  obtain ⟨A, c, e, -⟩ := hr.form
  obtain ⟨fuel, hf⟩ := hd
  subst e
  exact ⟨ls, A, c, rfl, slice_cap Try.underlying24 hf, hr⟩
theorem open_IRdC {r : Go.Reach} {b0 : Nat} {v : Value} {d : DataW H} {ps : List MemPlace} (hval : Value.okWide Try.prog W r b0 22 v) (hd : DataW.Trod enc Try.prog W 0 (fun _ => true) true 22 v d ps) : ∃ ls A c, v = .slice A ls.length c ∧ ls.length ≤ c ∧ IRd W v ls := by
  obtain ⟨ls, hr⟩ := open_IRd hval hd
  obtain ⟨A, c, e, -⟩ := id hr
  obtain ⟨fuel, hf⟩ := hd
  subst e
  exact ⟨ls, A, c, rfl, slice_cap Try.underlying22 hf, hr⟩
end
end Go.Proofs.Ytlekdhhgjhakgaa
