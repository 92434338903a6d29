/-
  InterestChecks returns true for every input, and its arguments read afterwards as before. Nothing is asked.
-/
import Derived.Test.YtlekdhhgjhakgaaLwK
import Derived.Test.YtlekdhhgjhakgaaLawZ
import Derived.ProofKit
import Derived.OpenShut
namespace Go.Proofs.Ytlekdhhgjhakgaa.interestChecks
open Go.ChangeShapes Go.WideShapes Go.ChangeAt Go.RowKit
set_option linter.unusedVariables false

set_option maxRecDepth 100000 in
theorem lifted (os : Os) (started : os.Started) (H : Type) (enc : TypeId × Value → H) :
    ReturnsInHanded {} Try.checked os 9 .any (Rows.interestChecksSpec.pre6 enc Try.prog Try.f9 Rows.interestChecksRow.domain false) (Rows.interestChecksSpec.post enc Try.prog Try.f9 false true false false) := by
  refine returnsInHanded_of_change (C := Try.checked) own started (by kernel_rfl) Try.func9
    (ChangeSpec.witness6 (enc := enc) (C := Try.checked) false ⟨#[], #[.slice none 0 0, .slice none 0 0, .slice none 0 0], []⟩ 8 (by kernel_rfl) (by kernel_rfl) (by kernel_rfl) (by kernel_rfl)) ?_
  intro W base args ds gs before hval0 hW hcnd _
  have hval : ∀ (j : Nat) t v, Try.f9.params[j]? = some t → args[j]? = some v → Value.okWide Try.prog W .any base t v := hval0
  have hW' := hW
  obtain ⟨p, q, hA0, hV, hbe, hfz, hnd⟩ := hW
  have hA : DataW.TrodAll enc Try.prog W 0 (fun _ => true) true Try.f9.params.toList args.toList ds p := hA0
  obtain ⟨rfl, rfl⟩ := trodVars_none hV
  rw [List.append_nil] at hbe
  subst hbe
  have hstay : ∀ W', Below W.heap.size W W' → ∀ sp : Nat → Bool, (∀ x ∈ before, sp x.block = true) → DataW.TrodAll enc Try.prog W' 0 sp true Try.f9.params.toList args.toList ds before := fun W' hb sp hs => trodAll_stay hb (by rw [Try.params9]; simp only [List.forall_mem_cons]; decide +kernel) hA hs
  rw [Try.params9] at hA hval
  obtain ⟨v0, vs0, d0, ds0, p0, q0, hargs, rfl, hpe0, h0, r0⟩ := trodAll_cons hA
  obtain ⟨v1, vs1, d1, ds1, p1, q1, rfl, rfl, hpe1, h1, r1⟩ := trodAll_cons r0
  obtain ⟨v2, vs2, d2, ds2, p2, q2, rfl, rfl, hpe2, h2, r2⟩ := trodAll_cons r1
  obtain ⟨rfl, rfl, -⟩ := trodAll_nil r2
  obtain rfl : args = #[v0, v1, v2] := by cases args; simp_all
  clear r0 r1 r2
  obtain ⟨xs, A0, c0, rfl, k0, w0⟩ := open_IRdC (hval 0 22 v0 rfl rfl) h0
  obtain ⟨ys, A1, c1, rfl, k1, w1⟩ := open_IRdC (hval 1 22 v1 rfl rfl) h1
  obtain ⟨qs, w2⟩ := open_rows3 (hval 2 54 v2 rfl rfl) h2
  obtain ⟨A2, c2, rfl, -⟩ := w2.form
  refine (checks_walk A0 A1 A2 c0 c1 c2 xs ys qs W w0 w1 w2).mono fun e W' ⟨he, hg⟩ => ?_
  subst he
  exact ⟨_, rfl, post_of_below (pa := before) (pv := []) hW' (fun _ _ _ => (trodAll_cons_mk (shut_bool Try.underlying4 _) trodAll_mk0)) (fun sp hs => hstay _ hg sp hs) (fun _ _ => rfl) (by rw [List.append_nil])
    hg (ok_one (by kernel_rfl) rfl (okWide_bool_mk Try.underlying4 _))⟩

theorem over : Rows.interestChecksRow.holds Try.pinned (OpenSpec.ofChange Rows.interestChecksSpec) :=
  OpenClaim.holds_of_wide 9 Try.f9 rfl rfl rfl rfl rfl rfl rfl ⟨rfl, rfl, rfl, rfl, rfl⟩ rfl rfl rfl rfl rfl (by kernel_rfl) Try.func9 (by kernel_rfl)
    (of_decide_eq_true (by kernel_rfl)) (by unfold Func.isWrapper; first | (rw [if_pos (by decide +kernel)]; kernel_rfl) | (rw [if_neg (by decide +kernel)]; exact ⟨rfl, rfl⟩))
    (fun os started H enc _ => lifted os started H enc)

theorem proved : Rows.InterestChecksSaid :=
  over
end Go.Proofs.Ytlekdhhgjhakgaa.interestChecks
namespace Go.Proofs.Ytlekdhhgjhakgaa

theorem interestChecks_holds : Rows.InterestChecksSaid := interestChecks.proved

end Go.Proofs.Ytlekdhhgjhakgaa
