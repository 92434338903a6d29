/-
  A law whose walk only lets the world grow: its arguments read afterwards as before, whatever their types. Arguments that are ints and slices of ints, opened. Nothing is asked.
-/
import Derived.Test.YtgkdeknfmmgbdaaLawF
import Derived.Test.YtgkdeknfmmgbdaaMd
import Derived.ChangeStays
import Derived.ReadAgain
namespace Go.Proofs.Ytgkdeknfmmgbdaa
set_option linter.unusedVariables false
set_option linter.unusedSimpArgs false
open Go.RowKit Go.WideShapes Go.ChangeShapes
set_option maxRecDepth 100000

section
variable {H : Type} {enc : TypeId × Value → H} {W W' : World} {sp : Nat → Bool}
theorem trodAll_stay (hb : Below W.heap.size W W') : ∀ {ts : List TypeId} {vs : List Value} {ds : List (DataW H)} {ps : List MemPlace}, (∀ t ∈ ts, t < Try.prog.types.size) →
    DataW.TrodAll enc Try.prog W 0 (fun _ => true) true ts vs ds ps → (∀ p ∈ ps, sp p.block = true) → DataW.TrodAll enc Try.prog W' 0 sp true ts vs ds ps
  | [], [], [], _, _, h, _ => h
  | t :: ts, v :: vs, d :: ds, ps, ht, h, hs => by
    obtain ⟨p, q, ⟨fuel, hp⟩, hq, e⟩ := h
    subst e
    refine ⟨p, q, ⟨fuel, ?_⟩, trodAll_stay hb (fun t h => ht t (List.mem_cons_of_mem _ h)) hq (fun x hx => hs x (List.mem_append_right _ hx)), rfl⟩
    exact DataW.trod_stays kids (fun {t e} ht hu => full t e ht hu) (fun h => by cases h) (ht t List.mem_cons_self) hp
      (fun x hx => sameAt_below hb x (DataW.trod_lt fuel t _ _ hp x hx)) (fun x hx => hs x (List.mem_append_left _ hx))
  | [], _ :: _, _, _, _, h, _ => h.elim
  | [], [], _ :: _, _, _, h, _ => h.elim
  | _ :: _, [], _, _, _, h, _ => h.elim
  | _ :: _, _ :: _, [], _, _, h, _ => h.elim

theorem i64_of_wf {n : Int} (h : (Lit.int .i64 n).wf = true) : -9223372036854775808 ≤ n ∧ n ≤ 9223372036854775807 := by
  simpa [Lit.wf, IntKind.min, IntKind.max, IntKind.signed, IntKind.bits] using h
theorem ird_of_trod {fuel : Nat} {cs : List Value} {x : DataW H × List MemPlace} (h : DataW.trod enc Try.prog W 0 (fun _ => true) true fuel 22 cs = some x) : ∃ v ls, cs = [v] ∧ IRd W v ls := by
  rcases open_ints Try.underlying22 Try.underlying3 cells3 h with ⟨rfl, -⟩ | ⟨a, len, cap, zs, rfl, -, hl, hm, hz, -, hc, hw⟩
  · exact ⟨_, [], rfl, none, 0, rfl, by simp, by simp, .inl rfl⟩
  · have hlen : (zs.take len).length = len := by rw [List.length_take, hz]; simp; omega
    unfold maxLen at hm
    refine ⟨_, zs.take len, rfl, some a, cap, by rw [hlen], by rw [hlen]; omega, fun z hz => i64_of_wf (hw z (List.mem_of_mem_take hz)), ?_⟩
    rcases Nat.eq_zero_or_pos len with rfl | hpos
    · exact .inl rfl
    · have hzl : len ≤ zs.length := by rw [hz]; simp; omega
      obtain ⟨b, off, rfl, hcell⟩ := ints_at hc (by omega)
      refine .inr ⟨b, off, rfl, fun k hk => ?_⟩
      rw [hlen] at hk
      rw [hcell k (by omega), List.getElem_take, List.getD_eq_getElem?_getD, List.getElem?_eq_getElem (by omega)]
      rfl
/-- A slice of ints among the arguments. -/
theorem open_IRd {r : Reach} {b0 : Nat} {v : Value} {d : DataW H} {ps : List MemPlace} (hval : Value.okWide Try.prog W r b0 22 v) (hd : DataW.Trod enc Try.prog W 0 (fun _ => true) true 22 v d ps) : ∃ ls, IRd W v ls := by
  obtain ⟨fuel, hf⟩ := hd
  obtain ⟨a, l, c, rfl⟩ := okWide_slice Try.underlying22 hval
  obtain ⟨v, ls, hcs, hr⟩ := ird_of_trod hf
  simp [Value.cells] at hcs
  subst hcs
  exact ⟨ls, hr⟩
end
end Go.Proofs.Ytgkdeknfmmgbdaa
