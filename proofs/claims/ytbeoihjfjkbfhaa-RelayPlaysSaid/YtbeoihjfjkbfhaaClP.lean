/-
  RelayPlays returns true for every input, and its arguments read afterwards as before. Nothing is asked.
-/
import Derived.Test.YtbeoihjfjkbfhaaLwP
import Derived.Test.YtbeoihjfjkbfhaaJnG
import Derived.ProofKit
import Derived.OpenShut
namespace Go.Proofs.Ytbeoihjfjkbfhaa.relayPlays
open Go.ChangeShapes Go.WideShapes Go.ChangeAt Go.RowKit
set_option linter.unusedVariables false

set_option maxRecDepth 100000 in
theorem lifted (os : Os) (started : os.Started) (H : Type) (enc : TypeId × Value → H) :
    ReturnsInHanded {} Try.checked os 3 .any (Rows.relayPlaysSpec.pre6 enc Try.prog Try.f3 Rows.relayPlaysRow.domain false) (Rows.relayPlaysSpec.post enc Try.prog Try.f3 false true false false) := by
  refine returnsInHanded_of_change (C := Try.checked) own started (by kernel_rfl) Try.func3
    (ChangeSpec.witness6 (enc := enc) (C := Try.checked) false ⟨#[], #[.slice none 0 0, .agg #[.int .u8 0, .int .u8 0]], []⟩ 8 (by kernel_rfl) (by kernel_rfl) (by kernel_rfl) (by kernel_rfl)) ?_
  intro W base args ds gs before hval0 hW hcnd _
  have hval : ∀ (j : Nat) t v, Try.f3.params[j]? = some t → args[j]? = some v → Value.okWide Try.prog W .any base t v := hval0
  have hW' := hW
  obtain ⟨p, q, hA0, hV, hbe, hfz, hnd⟩ := hW
  have hA : DataW.TrodAll enc Try.prog W 0 (fun _ => true) true Try.f3.params.toList args.toList ds p := hA0
  obtain ⟨rfl, rfl⟩ := trodVars_none hV
  rw [List.append_nil] at hbe
  subst hbe
  have hstay : ∀ W', Below W.heap.size W W' → ∀ sp : Nat → Bool, (∀ x ∈ before, sp x.block = true) → DataW.TrodAll enc Try.prog W' 0 sp true Try.f3.params.toList args.toList ds before := fun W' hb sp hs => trodAll_stay hb (by rw [Try.params3]; simp only [List.forall_mem_cons]; decide +kernel) hA hs
  rw [Try.params3] at hA hval
  obtain ⟨v0, vs0, d0, ds0, p0, q0, hargs, rfl, hpe0, h0, r0⟩ := trodAll_cons hA
  obtain ⟨v1, vs1, d1, ds1, p1, q1, rfl, rfl, hpe1, h1, r1⟩ := trodAll_cons r0
  obtain ⟨rfl, rfl, -⟩ := trodAll_nil r1
  obtain rfl : args = #[v0, v1] := by cases args; simp_all
  clear r0 r1
  obtain ⟨ls, r0⟩ := open_acts (hval 0 22 v0 rfl rfl) h0
  obtain ⟨q0, q1, rfl, w1, w2⟩ := open_bytes2 (hval 1 23 v1 rfl rfl) h1
  refine (plays_walk v0 ls q0 q1 w1 w2 W r0).mono fun e W' ⟨he, hg⟩ => ?_
  subst he
  exact ⟨_, rfl, post_of_below (pa := before) (pv := []) hW' (fun _ _ _ => (trodAll_cons_mk (shut_bool Try.underlying4 _) trodAll_mk0)) (fun sp hs => hstay _ hg sp hs) (fun _ _ => rfl) (by rw [List.append_nil])
    hg (ok_one (by kernel_rfl) rfl (okWide_bool_mk Try.underlying4 _))⟩

theorem over : Rows.relayPlaysRow.holds Try.pinned (OpenSpec.ofChange Rows.relayPlaysSpec) :=
  OpenClaim.holds_of_wide 3 Try.f3 rfl rfl rfl rfl rfl rfl rfl ⟨rfl, rfl, rfl, rfl, rfl⟩ rfl rfl rfl rfl rfl (by kernel_rfl) Try.func3 (by kernel_rfl)
    (of_decide_eq_true (by kernel_rfl)) (by unfold Func.isWrapper; first | (rw [if_pos (by decide +kernel)]; kernel_rfl) | (rw [if_neg (by decide +kernel)]; exact ⟨rfl, rfl⟩))
    (fun os started H enc _ => lifted os started H enc)

theorem proved : Rows.RelayPlaysSaid :=
  over
end Go.Proofs.Ytbeoihjfjkbfhaa.relayPlays
namespace Go.Proofs.Ytbeoihjfjkbfhaa

theorem relayPlays_holds : Rows.RelayPlaysSaid := relayPlays.proved

end Go.Proofs.Ytbeoihjfjkbfhaa
