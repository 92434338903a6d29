/-
  No cell of these rows narrows 'for every input' (looked for: loops, veiled, ifaces, maps, wideKeys, modest, calm, conditions, laid).
  DERIVED. THE GIVEN ROWS OF THIS SEAT. 8 by the template 'for every input the law returns true; each argument reads behind the call as it read before'; 0 by the template 'total and deterministic' (their statements: YtlekdhhgjhakgaaTotals.lean).
  GIVEN WITH THE SEED: the statements are not yours to turn. If you find one false, say at which input.
  Laid BY PROGRAM, IN A SANDBOX (cutbox-rows.mjs): the forced cells as the released guide's own fill.sh prints them over the translation 9095e52fe5c617d4… (all of the seat's roots in one cut). By AI agents, Wed Nov 11 2026. No macro, syntax, notation, axiom, sorry.
-/
import Derived.Test.YtlekdhhgjhakgaaChecked
import GoSem.Claim
import GoSem.ClaimJoined
import GoSem.ClaimMapViews
import Derived.JoinedTies
import Derived.KernelRfl
namespace Go.Proofs.Ytlekdhhgjhakgaa
/- THE CELL 'sum', in the pinned program and in every row, IS THE sha256 OF THE DUMP (.gsa) THAT YtlekdhhgjhakgaaProg.lean LOADS. Nothing in Lean hashes anything: it is a label: what it is worth is what the hold of that sum in a sandbox is worth. -/
noncomputable def Try.pinned : Pinned := { name := "ytlekdhhgjhakgaa", sum := "9095e52fe5c617d4e4e3e4a53c0f326d6b4b289d1edd34a73e7b38a97dca9e09", checked := Try.checked }
namespace Rows
def none {H : Type} : Left H := { results := [], args := [] }

/-- 'probitylaw18.InterestConflicts': WHATEVER THE INPUT: true; the input reads as it did. -/
def interestConflictsSpec : ChangeSpec := { name := "interestConflicts", fn := fun _ => fun
  | [d1, d2, d3] => { results := [.lit (.bool true)], args := [d1, d2, d3] }
  | _ => none }
def interestConflictsRow : OpenClaim := { program := "ytlekdhhgjhakgaa", sum := "9095e52fe5c617d4e4e3e4a53c0f326d6b4b289d1edd34a73e7b38a97dca9e09", func := "probity/probitylaw18.InterestConflicts", spec := "interestConflicts", unfollowed := true, recurses := true, plainKeys := false, apart := false }
def InterestConflictsSaid : Prop := interestConflictsRow.holds Try.pinned (OpenSpec.ofChange interestConflictsSpec)

/-- ITS FALSE NEIGHBOUR: 'it returns false'. Refute it at one input. -/
def interestConflictsWrong : ChangeSpec := { name := "interestConflicts", fn := fun _ => fun
  | [d1, d2, d3] => { results := [.lit (.bool false)], args := [d1, d2, d3] }
  | _ => none }
def InterestConflictsWrongFalsely : Prop := interestConflictsRow.holds Try.pinned (OpenSpec.ofChange interestConflictsWrong)

/-- 'probitylaw18.InterestNear': WHATEVER THE INPUT: true; the input reads as it did. -/
def interestNearSpec : ChangeSpec := { name := "interestNear", fn := fun _ => fun
  | [d1, d2, d3] => { results := [.lit (.bool true)], args := [d1, d2, d3] }
  | _ => none }
def interestNearRow : OpenClaim := { program := "ytlekdhhgjhakgaa", sum := "9095e52fe5c617d4e4e3e4a53c0f326d6b4b289d1edd34a73e7b38a97dca9e09", func := "probity/probitylaw18.InterestNear", spec := "interestNear", unfollowed := true, recurses := true, plainKeys := false, apart := false }
def InterestNearSaid : Prop := interestNearRow.holds Try.pinned (OpenSpec.ofChange interestNearSpec)

/-- ITS FALSE NEIGHBOUR: 'it returns false'. Refute it at one input. -/
def interestNearWrong : ChangeSpec := { name := "interestNear", fn := fun _ => fun
  | [d1, d2, d3] => { results := [.lit (.bool false)], args := [d1, d2, d3] }
  | _ => none }
def InterestNearWrongFalsely : Prop := interestNearRow.holds Try.pinned (OpenSpec.ofChange interestNearWrong)

/-- 'probitylaw18.InterestMore': WHATEVER THE INPUT: true; the input reads as it did. -/
def interestMoreSpec : ChangeSpec := { name := "interestMore", fn := fun _ => fun
  | [d1, d2] => { results := [.lit (.bool true)], args := [d1, d2] }
  | _ => none }
def interestMoreRow : OpenClaim := { program := "ytlekdhhgjhakgaa", sum := "9095e52fe5c617d4e4e3e4a53c0f326d6b4b289d1edd34a73e7b38a97dca9e09", func := "probity/probitylaw18.InterestMore", spec := "interestMore", unfollowed := true, recurses := true, plainKeys := false, apart := false }
def InterestMoreSaid : Prop := interestMoreRow.holds Try.pinned (OpenSpec.ofChange interestMoreSpec)

/-- ITS FALSE NEIGHBOUR: 'it returns false'. Refute it at one input. -/
def interestMoreWrong : ChangeSpec := { name := "interestMore", fn := fun _ => fun
  | [d1, d2] => { results := [.lit (.bool false)], args := [d1, d2] }
  | _ => none }
def InterestMoreWrongFalsely : Prop := interestMoreRow.holds Try.pinned (OpenSpec.ofChange interestMoreWrong)

/-- 'probitylaw18.InterestLoads': WHATEVER THE INPUT: true; the input reads as it did. -/
def interestLoadsSpec : ChangeSpec := { name := "interestLoads", fn := fun _ => fun
  | [d1, d2, d3] => { results := [.lit (.bool true)], args := [d1, d2, d3] }
  | _ => none }
def interestLoadsRow : OpenClaim := { program := "ytlekdhhgjhakgaa", sum := "9095e52fe5c617d4e4e3e4a53c0f326d6b4b289d1edd34a73e7b38a97dca9e09", func := "probity/probitylaw18.InterestLoads", spec := "interestLoads", unfollowed := true, recurses := true, plainKeys := false, apart := false }
def InterestLoadsSaid : Prop := interestLoadsRow.holds Try.pinned (OpenSpec.ofChange interestLoadsSpec)

/-- ITS FALSE NEIGHBOUR: 'it returns false'. Refute it at one input. -/
def interestLoadsWrong : ChangeSpec := { name := "interestLoads", fn := fun _ => fun
  | [d1, d2, d3] => { results := [.lit (.bool false)], args := [d1, d2, d3] }
  | _ => none }
def InterestLoadsWrongFalsely : Prop := interestLoadsRow.holds Try.pinned (OpenSpec.ofChange interestLoadsWrong)

/-- 'probitylaw18.InterestErrors': WHATEVER THE INPUT: true; the input reads as it did. -/
def interestErrorsSpec : ChangeSpec := { name := "interestErrors", fn := fun _ => fun
  | [d1, d2, d3] => { results := [.lit (.bool true)], args := [d1, d2, d3] }
  | _ => none }
def interestErrorsRow : OpenClaim := { program := "ytlekdhhgjhakgaa", sum := "9095e52fe5c617d4e4e3e4a53c0f326d6b4b289d1edd34a73e7b38a97dca9e09", func := "probity/probitylaw18.InterestErrors", spec := "interestErrors", unfollowed := true, recurses := true, plainKeys := false, apart := false }
def InterestErrorsSaid : Prop := interestErrorsRow.holds Try.pinned (OpenSpec.ofChange interestErrorsSpec)

/-- ITS FALSE NEIGHBOUR: 'it returns false'. Refute it at one input. -/
def interestErrorsWrong : ChangeSpec := { name := "interestErrors", fn := fun _ => fun
  | [d1, d2, d3] => { results := [.lit (.bool false)], args := [d1, d2, d3] }
  | _ => none }
def InterestErrorsWrongFalsely : Prop := interestErrorsRow.holds Try.pinned (OpenSpec.ofChange interestErrorsWrong)

/-- 'probitylaw18.InterestAssigns': WHATEVER THE INPUT: true; the input reads as it did. -/
def interestAssignsSpec : ChangeSpec := { name := "interestAssigns", fn := fun _ => fun
  | [d1, d2, d3] => { results := [.lit (.bool true)], args := [d1, d2, d3] }
  | _ => none }
def interestAssignsRow : OpenClaim := { program := "ytlekdhhgjhakgaa", sum := "9095e52fe5c617d4e4e3e4a53c0f326d6b4b289d1edd34a73e7b38a97dca9e09", func := "probity/probitylaw18.InterestAssigns", spec := "interestAssigns", unfollowed := true, recurses := true, plainKeys := false, apart := false }
def InterestAssignsSaid : Prop := interestAssignsRow.holds Try.pinned (OpenSpec.ofChange interestAssignsSpec)

/-- ITS FALSE NEIGHBOUR: 'it returns false'. Refute it at one input. -/
def interestAssignsWrong : ChangeSpec := { name := "interestAssigns", fn := fun _ => fun
  | [d1, d2, d3] => { results := [.lit (.bool false)], args := [d1, d2, d3] }
  | _ => none }
def InterestAssignsWrongFalsely : Prop := interestAssignsRow.holds Try.pinned (OpenSpec.ofChange interestAssignsWrong)

/-- 'probitylaw18.InterestChecks': WHATEVER THE INPUT: true; the input reads as it did. -/
def interestChecksSpec : ChangeSpec := { name := "interestChecks", fn := fun _ => fun
  | [d1, d2, d3] => { results := [.lit (.bool true)], args := [d1, d2, d3] }
  | _ => none }
def interestChecksRow : OpenClaim := { program := "ytlekdhhgjhakgaa", sum := "9095e52fe5c617d4e4e3e4a53c0f326d6b4b289d1edd34a73e7b38a97dca9e09", func := "probity/probitylaw18.InterestChecks", spec := "interestChecks", unfollowed := true, recurses := true, plainKeys := false, apart := false }
def InterestChecksSaid : Prop := interestChecksRow.holds Try.pinned (OpenSpec.ofChange interestChecksSpec)

/-- ITS FALSE NEIGHBOUR: 'it returns false'. Refute it at one input. -/
def interestChecksWrong : ChangeSpec := { name := "interestChecks", fn := fun _ => fun
  | [d1, d2, d3] => { results := [.lit (.bool false)], args := [d1, d2, d3] }
  | _ => none }
def InterestChecksWrongFalsely : Prop := interestChecksRow.holds Try.pinned (OpenSpec.ofChange interestChecksWrong)

/-- 'probitylaw18.InterestOwn': WHATEVER THE INPUT: true; the input reads as it did. -/
def interestOwnSpec : ChangeSpec := { name := "interestOwn", fn := fun _ => fun
  | [d1, d2] => { results := [.lit (.bool true)], args := [d1, d2] }
  | _ => none }
def interestOwnRow : OpenClaim := { program := "ytlekdhhgjhakgaa", sum := "9095e52fe5c617d4e4e3e4a53c0f326d6b4b289d1edd34a73e7b38a97dca9e09", func := "probity/probitylaw18.InterestOwn", spec := "interestOwn", unfollowed := true, recurses := true, plainKeys := false, apart := false }
def InterestOwnSaid : Prop := interestOwnRow.holds Try.pinned (OpenSpec.ofChange interestOwnSpec)

/-- ITS FALSE NEIGHBOUR: 'it returns false'. Refute it at one input. -/
def interestOwnWrong : ChangeSpec := { name := "interestOwn", fn := fun _ => fun
  | [d1, d2] => { results := [.lit (.bool false)], args := [d1, d2] }
  | _ => none }
def InterestOwnWrongFalsely : Prop := interestOwnRow.holds Try.pinned (OpenSpec.ofChange interestOwnWrong)

/- THE SECOND FORM. 'bulk': how many values and letters a reading holds, each counted each time it is reached (what is shared counts as often as it is met; a slice's spare places count too). A statement '..UptoSaid' is the law's where the arguments, and the package variables that the reading takes, are together of bulk at most 1048576: NARROWER than '..Said'. Prove '..Said' where nothing that the law and all that it calls make is longer than what came in: it says more and counts as full. Else prove '..UptoSaid'. A law counts once. -/
mutual
def uptoBulk {H : Type} : DataW H → Nat
  | .lit (.string bytes) => bytes.length + 1
  | .lit _ => 1
  | .nil => 1
  | .ptr d => uptoBulk d + 1
  | .slice elems spare => uptoBulkAll elems + uptoBulkAll spare + 1
  | .agg parts => uptoBulkAll parts + 1
  | .iface _ d => uptoBulk d + 1
  | .map entries => uptoBulkEntries entries + 1
  | .held _ => 1
def uptoBulkAll {H : Type} : List (DataW H) → Nat
  | [] => 0
  | d :: r => uptoBulk d + uptoBulkAll r
def uptoBulkEntries {H : Type} : List (Lit × DataW H) → Nat
  | [] => 0
  | x :: r => uptoBulkEntry x + uptoBulkEntries r
def uptoBulkEntry {H : Type} : Lit × DataW H → Nat
  | (.string bytes, d) => bytes.length + uptoBulk d + 1
  | (_, d) => uptoBulk d + 1
 end
def uptoSmall : (H : Type) → List (DataW H) → Bool := fun _ ds => decide (uptoBulkAll ds ≤ 1048576)
def OpenSpec.upto (s : _root_.Go.ChangeSpec) : _root_.Go.OpenSpec := { _root_.Go.OpenSpec.ofChange s with cond := some uptoSmall }

/-- 'probitylaw18.InterestConflicts', WHERE WHAT IT READS IS OF BULK AT MOST 1048576: true; the input reads as it did. -/
def interestConflictsUptoRow : OpenClaim := { program := "ytlekdhhgjhakgaa", sum := "9095e52fe5c617d4e4e3e4a53c0f326d6b4b289d1edd34a73e7b38a97dca9e09", func := "probity/probitylaw18.InterestConflicts", spec := "interestConflicts", unfollowed := true, recurses := true, plainKeys := false, apart := false, narrowed := true }
def InterestConflictsUptoSaid : Prop := interestConflictsUptoRow.holds Try.pinned (OpenSpec.upto interestConflictsSpec)

/-- 'probitylaw18.InterestNear', WHERE WHAT IT READS IS OF BULK AT MOST 1048576: true; the input reads as it did. -/
def interestNearUptoRow : OpenClaim := { program := "ytlekdhhgjhakgaa", sum := "9095e52fe5c617d4e4e3e4a53c0f326d6b4b289d1edd34a73e7b38a97dca9e09", func := "probity/probitylaw18.InterestNear", spec := "interestNear", unfollowed := true, recurses := true, plainKeys := false, apart := false, narrowed := true }
def InterestNearUptoSaid : Prop := interestNearUptoRow.holds Try.pinned (OpenSpec.upto interestNearSpec)

/-- 'probitylaw18.InterestMore', WHERE WHAT IT READS IS OF BULK AT MOST 1048576: true; the input reads as it did. -/
def interestMoreUptoRow : OpenClaim := { program := "ytlekdhhgjhakgaa", sum := "9095e52fe5c617d4e4e3e4a53c0f326d6b4b289d1edd34a73e7b38a97dca9e09", func := "probity/probitylaw18.InterestMore", spec := "interestMore", unfollowed := true, recurses := true, plainKeys := false, apart := false, narrowed := true }
def InterestMoreUptoSaid : Prop := interestMoreUptoRow.holds Try.pinned (OpenSpec.upto interestMoreSpec)

/-- 'probitylaw18.InterestLoads', WHERE WHAT IT READS IS OF BULK AT MOST 1048576: true; the input reads as it did. -/
def interestLoadsUptoRow : OpenClaim := { program := "ytlekdhhgjhakgaa", sum := "9095e52fe5c617d4e4e3e4a53c0f326d6b4b289d1edd34a73e7b38a97dca9e09", func := "probity/probitylaw18.InterestLoads", spec := "interestLoads", unfollowed := true, recurses := true, plainKeys := false, apart := false, narrowed := true }
def InterestLoadsUptoSaid : Prop := interestLoadsUptoRow.holds Try.pinned (OpenSpec.upto interestLoadsSpec)

/-- 'probitylaw18.InterestErrors', WHERE WHAT IT READS IS OF BULK AT MOST 1048576: true; the input reads as it did. -/
def interestErrorsUptoRow : OpenClaim := { program := "ytlekdhhgjhakgaa", sum := "9095e52fe5c617d4e4e3e4a53c0f326d6b4b289d1edd34a73e7b38a97dca9e09", func := "probity/probitylaw18.InterestErrors", spec := "interestErrors", unfollowed := true, recurses := true, plainKeys := false, apart := false, narrowed := true }
def InterestErrorsUptoSaid : Prop := interestErrorsUptoRow.holds Try.pinned (OpenSpec.upto interestErrorsSpec)

/-- 'probitylaw18.InterestAssigns', WHERE WHAT IT READS IS OF BULK AT MOST 1048576: true; the input reads as it did. -/
def interestAssignsUptoRow : OpenClaim := { program := "ytlekdhhgjhakgaa", sum := "9095e52fe5c617d4e4e3e4a53c0f326d6b4b289d1edd34a73e7b38a97dca9e09", func := "probity/probitylaw18.InterestAssigns", spec := "interestAssigns", unfollowed := true, recurses := true, plainKeys := false, apart := false, narrowed := true }
def InterestAssignsUptoSaid : Prop := interestAssignsUptoRow.holds Try.pinned (OpenSpec.upto interestAssignsSpec)

/-- 'probitylaw18.InterestChecks', WHERE WHAT IT READS IS OF BULK AT MOST 1048576: true; the input reads as it did. -/
def interestChecksUptoRow : OpenClaim := { program := "ytlekdhhgjhakgaa", sum := "9095e52fe5c617d4e4e3e4a53c0f326d6b4b289d1edd34a73e7b38a97dca9e09", func := "probity/probitylaw18.InterestChecks", spec := "interestChecks", unfollowed := true, recurses := true, plainKeys := false, apart := false, narrowed := true }
def InterestChecksUptoSaid : Prop := interestChecksUptoRow.holds Try.pinned (OpenSpec.upto interestChecksSpec)

/-- 'probitylaw18.InterestOwn', WHERE WHAT IT READS IS OF BULK AT MOST 1048576: true; the input reads as it did. -/
def interestOwnUptoRow : OpenClaim := { program := "ytlekdhhgjhakgaa", sum := "9095e52fe5c617d4e4e3e4a53c0f326d6b4b289d1edd34a73e7b38a97dca9e09", func := "probity/probitylaw18.InterestOwn", spec := "interestOwn", unfollowed := true, recurses := true, plainKeys := false, apart := false, narrowed := true }
def InterestOwnUptoSaid : Prop := interestOwnUptoRow.holds Try.pinned (OpenSpec.upto interestOwnSpec)

end Rows
end Go.Proofs.Ytlekdhhgjhakgaa
