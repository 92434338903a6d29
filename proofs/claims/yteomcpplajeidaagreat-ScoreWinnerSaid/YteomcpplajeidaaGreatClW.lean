/-
  ScoreWinner returns true for every input, and its arguments read afterwards as before. Nothing is asked.
-/
import Derived.Test.YteomcpplajeidaaGreatJwAU
import Derived.ProofKit
import Derived.OpenShut
set_option linter.unusedVariables false
set_option linter.unusedSimpArgs false
set_option maxRecDepth 100000
set_option maxHeartbeats 40000000
namespace Go.Proofs.YteomcpplajeidaaGreat.scoreWinner
open Go.ChangeShapes Go.WideShapes Go.ChangeAt Go.RowKit
set_option maxRecDepth 100000 in
theorem lifted (os:Os) (started:os.Started) (H:Type) (enc:TypeId×Value→H) :
 ReturnsInHanded {} Tryz.checked os 8 .any (Rows.scoreWinnerSpec.pre6 enc Tryz.prog Tryz.f8 Rows.scoreWinnerRow.domain false) (Rows.scoreWinnerSpec.post enc Tryz.prog Tryz.f8 false true false false):=by
 refine returnsInHanded_of_change (C:=Tryz.checked) own started (by kernel_rfl) Tryz.func8
  (ChangeSpec.witness6 (enc:=enc) (C:=Tryz.checked) false ⟨#[],#[.slice none 0 0,.slice none 0 0],[]⟩ 8 (by kernel_rfl) (by kernel_rfl) (by kernel_rfl) (by kernel_rfl)) ?_
 intro W base args ds gs before hval0 hW hcnd _
 have hval:∀ (j:Nat) t v,Tryz.f8.params[j]? = some t→args[j]? = some v→Value.okWide Tryz.prog W .any base t v:=hval0
 have hW':=hW
 obtain ⟨p,q,hA0,hV,hbe,hfz,hnd⟩:=hW
 have hA:DataW.TrodAll enc Tryz.prog W 0 (fun _=>true) true Tryz.f8.params.toList args.toList ds p:=hA0
 obtain ⟨rfl,rfl⟩:=trodVars_none hV
 rw [List.append_nil] at hbe
 subst hbe
 have hstay:∀ W',Below W.heap.size W W'→∀ sp:Nat→Bool,(∀ x∈before,sp x.block=true)→DataW.TrodAll enc Tryz.prog W' 0 sp true Tryz.f8.params.toList args.toList ds before:=fun W' hb sp hs=>trodAll_stay hb (by rw [Tryz.params8];simp only [List.forall_mem_cons];decide +kernel) hA hs
 rw [Tryz.params8] at hA hval
 obtain ⟨v0,vs0,d0,ds0,p0,q0,hargs,rfl,hpe0,h0,r0⟩:=trodAll_cons hA
 obtain ⟨v1,vs1,d1,ds1,p1,q1,rfl,rfl,hpe1,h1,r1⟩:=trodAll_cons r0
 obtain ⟨rfl,rfl,-⟩:=trodAll_nil r1
 obtain rfl:args=#[v0,v1]:=by cases args;simp_all
 clear r0 r1
 obtain ⟨ns,w0⟩:=open_IRd (hval 0 22 v0 rfl rfl) h0
 obtain ⟨ms,w1⟩:=open_IRd (hval 1 22 v1 rfl rfl) h1
 refine (winner_walk v0 v1 ns ms W w0 w1).mono fun e W' ⟨he,hg⟩=>?_
 subst he
 exact ⟨_,rfl,post_of_below (pa:=before) (pv:=[]) hW' (fun _ _ _=>(trodAll_cons_mk (shut_bool Tryz.underlying4 _) trodAll_mk0)) (fun sp hs=>hstay _ hg sp hs) (fun _ _=>rfl) (by rw [List.append_nil])
  hg (ok_one (by kernel_rfl) rfl (okWide_bool_mk Tryz.underlying4 _))⟩
theorem over:Rows.scoreWinnerRow.holds Tryz.pinned (OpenSpec.ofChange Rows.scoreWinnerSpec):=
 OpenClaim.holds_of_wide 8 Tryz.f8 rfl rfl rfl rfl rfl rfl rfl ⟨rfl,rfl,rfl,rfl,rfl⟩ rfl rfl rfl rfl rfl (by kernel_rfl) Tryz.func8 (by kernel_rfl)
  (of_decide_eq_true (by kernel_rfl)) (by unfold Func.isWrapper;first|(rw [if_pos (by decide +kernel)];kernel_rfl)|(rw [if_neg (by decide +kernel)];exact ⟨rfl,rfl⟩))
  (fun os started H enc _=>lifted os started H enc)
theorem proved:Rows.ScoreWinnerSaid:=
 over
end Go.Proofs.YteomcpplajeidaaGreat.scoreWinner
namespace Go.Proofs.YteomcpplajeidaaGreat
theorem scoreWinner_holds:Rows.ScoreWinnerSaid:=scoreWinner.proved
end Go.Proofs.YteomcpplajeidaaGreat

