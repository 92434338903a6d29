/-
  ScoreTies returns true for every input, and its arguments read afterwards as before. Nothing is asked.
-/
import Derived.Test.YteomcpplajeidaaGreatJtAT
import Derived.Test.YteomcpplajeidaaGreatJtAU
import Derived.ProofKit
import Derived.OpenShut
namespace Go.Proofs.YteomcpplajeidaaGreat.scoreTies
open Go.ChangeShapes Go.WideShapes Go.ChangeAt Go.RowKit
set_option linter.unusedVariables false
set_option maxRecDepth 100000 in
theorem lifted (os : Os) (started : os.Started) (H : Type) (enc : TypeId × Value → H) :
    ReturnsInHanded {} Tryz.checked os 9 .any (Rows.scoreTiesSpec.pre6 enc Tryz.prog Tryz.f9 Rows.scoreTiesRow.domain false) (Rows.scoreTiesSpec.post enc Tryz.prog Tryz.f9 false true false false) := by
  refine returnsInHanded_of_change (C := Tryz.checked) own started (by kernel_rfl) Tryz.func9
    (ChangeSpec.witness6 (enc := enc) (C := Tryz.checked) false ⟨#[], #[.agg #[.int .u8 0, .int .u8 0, .int .u8 0], .agg #[.int .u8 0, .int .u8 0, .int .u8 0], .int .u8 0], []⟩ 8 (by kernel_rfl) (by kernel_rfl) (by kernel_rfl) (by kernel_rfl)) ?_
  intro W base args ds gs before hval0 hW hcnd _
  have hval : ∀ (j : Nat) t v, Tryz.f9.params[j]? = some t → args[j]? = some v → Value.okWide Tryz.prog W .any base t v := hval0
  have hW' := hW
  obtain ⟨p, q, hA0, hV, hbe, hfz, hnd⟩ := hW
  have hA : DataW.TrodAll enc Tryz.prog W 0 (fun _ => true) true Tryz.f9.params.toList args.toList ds p := hA0
  obtain ⟨rfl, rfl⟩ := trodVars_none hV
  rw [List.append_nil] at hbe
  subst hbe
  have hstay : ∀ W', Below W.heap.size W W' → ∀ sp : Nat → Bool, (∀ x ∈ before, sp x.block = true) → DataW.TrodAll enc Tryz.prog W' 0 sp true Tryz.f9.params.toList args.toList ds before := fun W' hb sp hs => trodAll_stay hb (by rw [Tryz.params9]; simp only [List.forall_mem_cons]; decide +kernel) hA hs
  rw [Tryz.params9] at hA hval
  obtain ⟨v0, vs0, d0, ds0, p0, q0, hargs, rfl, hpe0, h0, r0⟩ := trodAll_cons hA
  obtain ⟨v1, vs1, d1, ds1, p1, q1, rfl, rfl, hpe1, h1, r1⟩ := trodAll_cons r0
  obtain ⟨v2, vs2, d2, ds2, p2, q2, rfl, rfl, hpe2, h2, r2⟩ := trodAll_cons r1
  obtain ⟨rfl, rfl, -⟩ := trodAll_nil r2
  obtain rfl : args = #[v0, v1, v2] := by cases args; simp_all
  clear r0 r1 r2
  obtain ⟨x0, x1, x2, rfl, o0, o1, o2⟩ := open_arr3 (hval 0 73 v0 rfl rfl) h0
  obtain ⟨y0, y1, y2, rfl, k0, k1, k2⟩ := open_arr3 (hval 1 73 v1 rfl rfl) h1
  obtain ⟨z, rfl, -, -, w2⟩ := open_int Tryz.underlying5 (hval 2 5 v2 rfl rfl) h2
  refine (ties_walk x0 x1 x2 y0 y1 y2 z o0 o1 o2 k0 k1 k2 (u8_of_wf w2) W).mono fun e W' ⟨he, hg⟩ => ?_
  subst he
  exact ⟨_, rfl, post_of_below (pa := before) (pv := []) hW' (fun _ _ _ => (trodAll_cons_mk (shut_bool Tryz.underlying4 _) trodAll_mk0)) (fun sp hs => hstay _ hg sp hs) (fun _ _ => rfl) (by rw [List.append_nil])
    hg (ok_one (by kernel_rfl) rfl (okWide_bool_mk Tryz.underlying4 _))⟩
theorem over : Rows.scoreTiesRow.holds Tryz.pinned (OpenSpec.ofChange Rows.scoreTiesSpec) :=
  OpenClaim.holds_of_wide 9 Tryz.f9 rfl rfl rfl rfl rfl rfl rfl ⟨rfl, rfl, rfl, rfl, rfl⟩ rfl rfl rfl rfl rfl (by kernel_rfl) Tryz.func9 (by kernel_rfl)
    (of_decide_eq_true (by kernel_rfl)) (by unfold Func.isWrapper; first | (rw [if_pos (by decide +kernel)]; kernel_rfl) | (rw [if_neg (by decide +kernel)]; exact ⟨rfl, rfl⟩))
    (fun os started H enc _ => lifted os started H enc)
theorem proved : Rows.ScoreTiesSaid :=
  over
end Go.Proofs.YteomcpplajeidaaGreat.scoreTies
namespace Go.Proofs.YteomcpplajeidaaGreat
theorem scoreTies_holds : Rows.ScoreTiesSaid := scoreTies.proved
end Go.Proofs.YteomcpplajeidaaGreat
