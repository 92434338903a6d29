/-
  No cell of these rows narrows 'for every input' (looked for: loops, veiled, ifaces, maps, wideKeys, modest, calm, conditions, laid).
  DERIVED. THE GIVEN ROWS OF THIS SEAT. 8 by the template 'for every input the law returns true; each argument reads behind the call as it read before'; 0 by the template 'total and deterministic' (their statements: YthdhlocoiipbaaaTotals.lean).
  GIVEN WITH THE SEED: the statements are not yours to turn. If you find one false, say at which input.
  Laid BY PROGRAM, IN A SANDBOX (cutbox-rows.mjs): the forced cells as the released guide's own fill.sh prints them over the translation 01918fd43fcbe41d… (all of the seat's roots in one cut). By AI agents, Wed Nov 11 2026. No macro, syntax, notation, axiom, sorry.
-/
import Derived.Test.YthdhlocoiipbaaaChecked
import GoSem.Claim
import GoSem.ClaimJoined
import GoSem.ClaimMapViews
import Derived.JoinedTies
import Derived.KernelRfl
namespace Go.Proofs.Ythdhlocoiipbaaa
/- THE CELL 'sum', in the pinned program and in every row, IS THE sha256 OF THE DUMP (.gsa) THAT YthdhlocoiipbaaaProg.lean LOADS. Nothing in Lean hashes anything: it is a label: what it is worth is what the hold of that sum in a sandbox is worth. -/
noncomputable def Try.pinned : Pinned := { name := "ythdhlocoiipbaaa", sum := "01918fd43fcbe41d0bcff33f9ab92d895a50b5343dd85f76df38a034c69be617", checked := Try.checked }
namespace Rows
def none {H : Type} : Left H := { results := [], args := [] }

/-- 'probitylaw20.FlowLabels': WHATEVER THE INPUT: true; the input reads as it did. -/
def flowLabelsSpec : ChangeSpec := { name := "flowLabels", fn := fun _ => fun
  | [d1, d2] => { results := [.lit (.bool true)], args := [d1, d2] }
  | _ => none }
def flowLabelsRow : OpenClaim := { program := "ythdhlocoiipbaaa", sum := "01918fd43fcbe41d0bcff33f9ab92d895a50b5343dd85f76df38a034c69be617", func := "probity/probitylaw20.FlowLabels", spec := "flowLabels", unfollowed := true, recurses := true, apart := false }
def FlowLabelsSaid : Prop := flowLabelsRow.holds Try.pinned (OpenSpec.ofChange flowLabelsSpec)

/-- ITS FALSE NEIGHBOUR: 'it returns false'. Refute it at one input. -/
def flowLabelsWrong : ChangeSpec := { name := "flowLabels", fn := fun _ => fun
  | [d1, d2] => { results := [.lit (.bool false)], args := [d1, d2] }
  | _ => none }
def FlowLabelsWrongFalsely : Prop := flowLabelsRow.holds Try.pinned (OpenSpec.ofChange flowLabelsWrong)

/-- 'probitylaw20.FlowClosed': WHATEVER THE INPUT: true; the input reads as it did. -/
def flowClosedSpec : ChangeSpec := { name := "flowClosed", fn := fun _ => fun
  | [d] => { results := [.lit (.bool true)], args := [d] }
  | _ => none }
def flowClosedRow : OpenClaim := { program := "ythdhlocoiipbaaa", sum := "01918fd43fcbe41d0bcff33f9ab92d895a50b5343dd85f76df38a034c69be617", func := "probity/probitylaw20.FlowClosed", spec := "flowClosed", unfollowed := true, recurses := true, apart := false }
def FlowClosedSaid : Prop := flowClosedRow.holds Try.pinned (OpenSpec.ofChange flowClosedSpec)

/-- ITS FALSE NEIGHBOUR: 'it returns false'. Refute it at one input. -/
def flowClosedWrong : ChangeSpec := { name := "flowClosed", fn := fun _ => fun
  | [d] => { results := [.lit (.bool false)], args := [d] }
  | _ => none }
def FlowClosedWrongFalsely : Prop := flowClosedRow.holds Try.pinned (OpenSpec.ofChange flowClosedWrong)

/-- 'probitylaw20.FlowChecks': WHATEVER THE INPUT: true; the input reads as it did. -/
def flowChecksSpec : ChangeSpec := { name := "flowChecks", fn := fun _ => fun
  | [d1, d2, d3] => { results := [.lit (.bool true)], args := [d1, d2, d3] }
  | _ => none }
def flowChecksRow : OpenClaim := { program := "ythdhlocoiipbaaa", sum := "01918fd43fcbe41d0bcff33f9ab92d895a50b5343dd85f76df38a034c69be617", func := "probity/probitylaw20.FlowChecks", spec := "flowChecks", unfollowed := true, recurses := true, apart := false }
def FlowChecksSaid : Prop := flowChecksRow.holds Try.pinned (OpenSpec.ofChange flowChecksSpec)

/-- ITS FALSE NEIGHBOUR: 'it returns false'. Refute it at one input. -/
def flowChecksWrong : ChangeSpec := { name := "flowChecks", fn := fun _ => fun
  | [d1, d2, d3] => { results := [.lit (.bool false)], args := [d1, d2, d3] }
  | _ => none }
def FlowChecksWrongFalsely : Prop := flowChecksRow.holds Try.pinned (OpenSpec.ofChange flowChecksWrong)

/-- 'probitylaw20.FlowKnows': WHATEVER THE INPUT: true; the input reads as it did. -/
def flowKnowsSpec : ChangeSpec := { name := "flowKnows", fn := fun _ => fun
  | [d1, d2, d3] => { results := [.lit (.bool true)], args := [d1, d2, d3] }
  | _ => none }
def flowKnowsRow : OpenClaim := { program := "ythdhlocoiipbaaa", sum := "01918fd43fcbe41d0bcff33f9ab92d895a50b5343dd85f76df38a034c69be617", func := "probity/probitylaw20.FlowKnows", spec := "flowKnows", unfollowed := true, recurses := true, apart := false }
def FlowKnowsSaid : Prop := flowKnowsRow.holds Try.pinned (OpenSpec.ofChange flowKnowsSpec)

/-- ITS FALSE NEIGHBOUR: 'it returns false'. Refute it at one input. -/
def flowKnowsWrong : ChangeSpec := { name := "flowKnows", fn := fun _ => fun
  | [d1, d2, d3] => { results := [.lit (.bool false)], args := [d1, d2, d3] }
  | _ => none }
def FlowKnowsWrongFalsely : Prop := flowKnowsRow.holds Try.pinned (OpenSpec.ofChange flowKnowsWrong)

/-- 'probitylaw20.FlowClean': WHATEVER THE INPUT: true; the input reads as it did. -/
def flowCleanSpec : ChangeSpec := { name := "flowClean", fn := fun _ => fun
  | [d1, d2, d3] => { results := [.lit (.bool true)], args := [d1, d2, d3] }
  | _ => none }
def flowCleanRow : OpenClaim := { program := "ythdhlocoiipbaaa", sum := "01918fd43fcbe41d0bcff33f9ab92d895a50b5343dd85f76df38a034c69be617", func := "probity/probitylaw20.FlowClean", spec := "flowClean", unfollowed := true, recurses := true, apart := false }
def FlowCleanSaid : Prop := flowCleanRow.holds Try.pinned (OpenSpec.ofChange flowCleanSpec)

/-- ITS FALSE NEIGHBOUR: 'it returns false'. Refute it at one input. -/
def flowCleanWrong : ChangeSpec := { name := "flowClean", fn := fun _ => fun
  | [d1, d2, d3] => { results := [.lit (.bool false)], args := [d1, d2, d3] }
  | _ => none }
def FlowCleanWrongFalsely : Prop := flowCleanRow.holds Try.pinned (OpenSpec.ofChange flowCleanWrong)

/-- 'probitylaw20.FlowRemoves': WHATEVER THE INPUT: true; the input reads as it did. -/
def flowRemovesSpec : ChangeSpec := { name := "flowRemoves", fn := fun _ => fun
  | [d1, d2, d3] => { results := [.lit (.bool true)], args := [d1, d2, d3] }
  | _ => none }
def flowRemovesRow : OpenClaim := { program := "ythdhlocoiipbaaa", sum := "01918fd43fcbe41d0bcff33f9ab92d895a50b5343dd85f76df38a034c69be617", func := "probity/probitylaw20.FlowRemoves", spec := "flowRemoves", unfollowed := true, recurses := true, apart := false }
def FlowRemovesSaid : Prop := flowRemovesRow.holds Try.pinned (OpenSpec.ofChange flowRemovesSpec)

/-- ITS FALSE NEIGHBOUR: 'it returns false'. Refute it at one input. -/
def flowRemovesWrong : ChangeSpec := { name := "flowRemoves", fn := fun _ => fun
  | [d1, d2, d3] => { results := [.lit (.bool false)], args := [d1, d2, d3] }
  | _ => none }
def FlowRemovesWrongFalsely : Prop := flowRemovesRow.holds Try.pinned (OpenSpec.ofChange flowRemovesWrong)

/-- 'probitylaw20.FlowGrows': WHATEVER THE INPUT: true; the input reads as it did. -/
def flowGrowsSpec : ChangeSpec := { name := "flowGrows", fn := fun _ => fun
  | [d1, d2, d3] => { results := [.lit (.bool true)], args := [d1, d2, d3] }
  | _ => none }
def flowGrowsRow : OpenClaim := { program := "ythdhlocoiipbaaa", sum := "01918fd43fcbe41d0bcff33f9ab92d895a50b5343dd85f76df38a034c69be617", func := "probity/probitylaw20.FlowGrows", spec := "flowGrows", unfollowed := true, recurses := true, apart := false }
def FlowGrowsSaid : Prop := flowGrowsRow.holds Try.pinned (OpenSpec.ofChange flowGrowsSpec)

/-- ITS FALSE NEIGHBOUR: 'it returns false'. Refute it at one input. -/
def flowGrowsWrong : ChangeSpec := { name := "flowGrows", fn := fun _ => fun
  | [d1, d2, d3] => { results := [.lit (.bool false)], args := [d1, d2, d3] }
  | _ => none }
def FlowGrowsWrongFalsely : Prop := flowGrowsRow.holds Try.pinned (OpenSpec.ofChange flowGrowsWrong)

/-- 'probitylaw20.FlowOrder': WHATEVER THE INPUT: true; the input reads as it did. -/
def flowOrderSpec : ChangeSpec := { name := "flowOrder", fn := fun _ => fun
  | [d1, d2, d3] => { results := [.lit (.bool true)], args := [d1, d2, d3] }
  | _ => none }
def flowOrderRow : OpenClaim := { program := "ythdhlocoiipbaaa", sum := "01918fd43fcbe41d0bcff33f9ab92d895a50b5343dd85f76df38a034c69be617", func := "probity/probitylaw20.FlowOrder", spec := "flowOrder", unfollowed := true, recurses := true, apart := false }
def FlowOrderSaid : Prop := flowOrderRow.holds Try.pinned (OpenSpec.ofChange flowOrderSpec)

/-- ITS FALSE NEIGHBOUR: 'it returns false'. Refute it at one input. -/
def flowOrderWrong : ChangeSpec := { name := "flowOrder", fn := fun _ => fun
  | [d1, d2, d3] => { results := [.lit (.bool false)], args := [d1, d2, d3] }
  | _ => none }
def FlowOrderWrongFalsely : Prop := flowOrderRow.holds Try.pinned (OpenSpec.ofChange flowOrderWrong)

/- THE SECOND FORM. 'bulk': how many values and letters a reading holds, each counted each time it is reached (what is shared counts as often as it is met; a slice's spare places count too). A statement '..UptoSaid' is the law's where the arguments, and the package variables that the reading takes, are together of bulk at most 1048576: NARROWER than '..Said'. Prove '..Said' where nothing that the law and all that it calls make is longer than what came in: it says more and counts as full. Else prove '..UptoSaid'. A law counts once. -/
mutual
def uptoBulk {H : Type} : DataW H → Nat
  | .lit (.string bytes) => bytes.length + 1
  | .lit _ => 1
  | .nil => 1
  | .ptr d => uptoBulk d + 1
  | .slice elems spare => uptoBulkAll elems + uptoBulkAll spare + 1
  | .agg parts => uptoBulkAll parts + 1
  | .iface _ d => uptoBulk d + 1
  | .map entries => uptoBulkEntries entries + 1
  | .held _ => 1
def uptoBulkAll {H : Type} : List (DataW H) → Nat
  | [] => 0
  | d :: r => uptoBulk d + uptoBulkAll r
def uptoBulkEntries {H : Type} : List (Lit × DataW H) → Nat
  | [] => 0
  | x :: r => uptoBulkEntry x + uptoBulkEntries r
def uptoBulkEntry {H : Type} : Lit × DataW H → Nat
  | (.string bytes, d) => bytes.length + uptoBulk d + 1
  | (_, d) => uptoBulk d + 1
 end
def uptoSmall : (H : Type) → List (DataW H) → Bool := fun _ ds => decide (uptoBulkAll ds ≤ 1048576)
def OpenSpec.upto (s : _root_.Go.ChangeSpec) : _root_.Go.OpenSpec := { _root_.Go.OpenSpec.ofChange s with cond := some uptoSmall }

/-- 'probitylaw20.FlowLabels', WHERE WHAT IT READS IS OF BULK AT MOST 1048576: true; the input reads as it did. -/
def flowLabelsUptoRow : OpenClaim := { program := "ythdhlocoiipbaaa", sum := "01918fd43fcbe41d0bcff33f9ab92d895a50b5343dd85f76df38a034c69be617", func := "probity/probitylaw20.FlowLabels", spec := "flowLabels", unfollowed := true, recurses := true, apart := false, narrowed := true }
def FlowLabelsUptoSaid : Prop := flowLabelsUptoRow.holds Try.pinned (OpenSpec.upto flowLabelsSpec)

/-- 'probitylaw20.FlowClosed', WHERE WHAT IT READS IS OF BULK AT MOST 1048576: true; the input reads as it did. -/
def flowClosedUptoRow : OpenClaim := { program := "ythdhlocoiipbaaa", sum := "01918fd43fcbe41d0bcff33f9ab92d895a50b5343dd85f76df38a034c69be617", func := "probity/probitylaw20.FlowClosed", spec := "flowClosed", unfollowed := true, recurses := true, apart := false, narrowed := true }
def FlowClosedUptoSaid : Prop := flowClosedUptoRow.holds Try.pinned (OpenSpec.upto flowClosedSpec)

/-- 'probitylaw20.FlowChecks', WHERE WHAT IT READS IS OF BULK AT MOST 1048576: true; the input reads as it did. -/
def flowChecksUptoRow : OpenClaim := { program := "ythdhlocoiipbaaa", sum := "01918fd43fcbe41d0bcff33f9ab92d895a50b5343dd85f76df38a034c69be617", func := "probity/probitylaw20.FlowChecks", spec := "flowChecks", unfollowed := true, recurses := true, apart := false, narrowed := true }
def FlowChecksUptoSaid : Prop := flowChecksUptoRow.holds Try.pinned (OpenSpec.upto flowChecksSpec)

/-- 'probitylaw20.FlowKnows', WHERE WHAT IT READS IS OF BULK AT MOST 1048576: true; the input reads as it did. -/
def flowKnowsUptoRow : OpenClaim := { program := "ythdhlocoiipbaaa", sum := "01918fd43fcbe41d0bcff33f9ab92d895a50b5343dd85f76df38a034c69be617", func := "probity/probitylaw20.FlowKnows", spec := "flowKnows", unfollowed := true, recurses := true, apart := false, narrowed := true }
def FlowKnowsUptoSaid : Prop := flowKnowsUptoRow.holds Try.pinned (OpenSpec.upto flowKnowsSpec)

/-- 'probitylaw20.FlowClean', WHERE WHAT IT READS IS OF BULK AT MOST 1048576: true; the input reads as it did. -/
def flowCleanUptoRow : OpenClaim := { program := "ythdhlocoiipbaaa", sum := "01918fd43fcbe41d0bcff33f9ab92d895a50b5343dd85f76df38a034c69be617", func := "probity/probitylaw20.FlowClean", spec := "flowClean", unfollowed := true, recurses := true, apart := false, narrowed := true }
def FlowCleanUptoSaid : Prop := flowCleanUptoRow.holds Try.pinned (OpenSpec.upto flowCleanSpec)

/-- 'probitylaw20.FlowRemoves', WHERE WHAT IT READS IS OF BULK AT MOST 1048576: true; the input reads as it did. -/
def flowRemovesUptoRow : OpenClaim := { program := "ythdhlocoiipbaaa", sum := "01918fd43fcbe41d0bcff33f9ab92d895a50b5343dd85f76df38a034c69be617", func := "probity/probitylaw20.FlowRemoves", spec := "flowRemoves", unfollowed := true, recurses := true, apart := false, narrowed := true }
def FlowRemovesUptoSaid : Prop := flowRemovesUptoRow.holds Try.pinned (OpenSpec.upto flowRemovesSpec)

/-- 'probitylaw20.FlowGrows', WHERE WHAT IT READS IS OF BULK AT MOST 1048576: true; the input reads as it did. -/
def flowGrowsUptoRow : OpenClaim := { program := "ythdhlocoiipbaaa", sum := "01918fd43fcbe41d0bcff33f9ab92d895a50b5343dd85f76df38a034c69be617", func := "probity/probitylaw20.FlowGrows", spec := "flowGrows", unfollowed := true, recurses := true, apart := false, narrowed := true }
def FlowGrowsUptoSaid : Prop := flowGrowsUptoRow.holds Try.pinned (OpenSpec.upto flowGrowsSpec)

/-- 'probitylaw20.FlowOrder', WHERE WHAT IT READS IS OF BULK AT MOST 1048576: true; the input reads as it did. -/
def flowOrderUptoRow : OpenClaim := { program := "ythdhlocoiipbaaa", sum := "01918fd43fcbe41d0bcff33f9ab92d895a50b5343dd85f76df38a034c69be617", func := "probity/probitylaw20.FlowOrder", spec := "flowOrder", unfollowed := true, recurses := true, apart := false, narrowed := true }
def FlowOrderUptoSaid : Prop := flowOrderUptoRow.holds Try.pinned (OpenSpec.upto flowOrderSpec)

end Rows
end Go.Proofs.Ythdhlocoiipbaaa
