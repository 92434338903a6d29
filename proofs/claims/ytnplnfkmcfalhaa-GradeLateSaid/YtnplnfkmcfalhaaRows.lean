/-
  No cell of these rows narrows 'for every input' (looked for: loops, veiled, ifaces, maps, wideKeys, modest, calm, conditions, laid).
  DERIVED. THE GIVEN ROWS OF THIS SEAT. 3 by the template 'for every input the law returns true; each argument reads behind the call as it read before'; 0 by the template 'total and deterministic' (their statements: YtnplnfkmcfalhaaTotals.lean).
  GIVEN WITH THE SEED: the statements are not yours to turn. If you find one false, say at which input.
  Laid BY PROGRAM, IN A SANDBOX (cutbox-rows.mjs): the forced cells as the released guide's own fill.sh prints them over the translation 1ce2f63ff31c8016… (all of the seat's roots in one cut). By AI agents, Wed Nov 11 2026. No macro, syntax, notation, axiom, sorry.
-/
import Derived.Test.YtnplnfkmcfalhaaChecked
import GoSem.Claim
import GoSem.ClaimJoined
import GoSem.ClaimMapViews
import Derived.JoinedTies
import Derived.KernelRfl
namespace Go.Proofs.Ytnplnfkmcfalhaa
/- THE CELL 'sum', in the pinned program and in every row, IS THE sha256 OF THE DUMP (.gsa) THAT YtnplnfkmcfalhaaProg.lean LOADS. Nothing in Lean hashes anything: it is a label: what it is worth is what the hold of that sum in a sandbox is worth. -/
noncomputable def Try.pinned : Pinned := { name := "ytnplnfkmcfalhaa", sum := "1ce2f63ff31c80166374fcdf62927068db4a83c1b10a892d38cd0c1390b855bf", checked := Try.checked }
namespace Rows
def none {H : Type} : Left H := { results := [], args := [] }

/-- 'probitylaw19.GradeLate': WHATEVER THE INPUT: true; the input reads as it did. -/
def gradeLateSpec : ChangeSpec := { name := "gradeLate", fn := fun _ => fun
  | [d1, d2, d3] => { results := [.lit (.bool true)], args := [d1, d2, d3] }
  | _ => none }
def gradeLateRow : OpenClaim := { program := "ytnplnfkmcfalhaa", sum := "1ce2f63ff31c80166374fcdf62927068db4a83c1b10a892d38cd0c1390b855bf", func := "probity/probitylaw19.GradeLate", spec := "gradeLate", recurses := true, plainKeys := false, apart := false }
def GradeLateSaid : Prop := gradeLateRow.holds Try.pinned (OpenSpec.ofChange gradeLateSpec)

/-- ITS FALSE NEIGHBOUR: 'it returns false'. Refute it at one input. -/
def gradeLateWrong : ChangeSpec := { name := "gradeLate", fn := fun _ => fun
  | [d1, d2, d3] => { results := [.lit (.bool false)], args := [d1, d2, d3] }
  | _ => none }
def GradeLateWrongFalsely : Prop := gradeLateRow.holds Try.pinned (OpenSpec.ofChange gradeLateWrong)

/-- 'probitylaw19.GradeMedian': WHATEVER THE INPUT: true; the input reads as it did. -/
def gradeMedianSpec : ChangeSpec := { name := "gradeMedian", fn := fun _ => fun
  | [d1, d2] => { results := [.lit (.bool true)], args := [d1, d2] }
  | _ => none }
def gradeMedianRow : OpenClaim := { program := "ytnplnfkmcfalhaa", sum := "1ce2f63ff31c80166374fcdf62927068db4a83c1b10a892d38cd0c1390b855bf", func := "probity/probitylaw19.GradeMedian", spec := "gradeMedian", recurses := true, plainKeys := false, apart := false }
def GradeMedianSaid : Prop := gradeMedianRow.holds Try.pinned (OpenSpec.ofChange gradeMedianSpec)

/-- ITS FALSE NEIGHBOUR: 'it returns false'. Refute it at one input. -/
def gradeMedianWrong : ChangeSpec := { name := "gradeMedian", fn := fun _ => fun
  | [d1, d2] => { results := [.lit (.bool false)], args := [d1, d2] }
  | _ => none }
def GradeMedianWrongFalsely : Prop := gradeMedianRow.holds Try.pinned (OpenSpec.ofChange gradeMedianWrong)

/-- 'probitylaw19.GradeChanges': WHATEVER THE INPUT: true; the input reads as it did. -/
def gradeChangesSpec : ChangeSpec := { name := "gradeChanges", fn := fun _ => fun
  | [d] => { results := [.lit (.bool true)], args := [d] }
  | _ => none }
def gradeChangesRow : OpenClaim := { program := "ytnplnfkmcfalhaa", sum := "1ce2f63ff31c80166374fcdf62927068db4a83c1b10a892d38cd0c1390b855bf", func := "probity/probitylaw19.GradeChanges", spec := "gradeChanges", recurses := true, plainKeys := false, apart := false }
def GradeChangesSaid : Prop := gradeChangesRow.holds Try.pinned (OpenSpec.ofChange gradeChangesSpec)

/-- ITS FALSE NEIGHBOUR: 'it returns false'. Refute it at one input. -/
def gradeChangesWrong : ChangeSpec := { name := "gradeChanges", fn := fun _ => fun
  | [d] => { results := [.lit (.bool false)], args := [d] }
  | _ => none }
def GradeChangesWrongFalsely : Prop := gradeChangesRow.holds Try.pinned (OpenSpec.ofChange gradeChangesWrong)

/- THE SECOND FORM. 'bulk': how many values and letters a reading holds, each counted each time it is reached (what is shared counts as often as it is met; a slice's spare places count too). A statement '..UptoSaid' is the law's where the arguments, and the package variables that the reading takes, are together of bulk at most 1048576: NARROWER than '..Said'. Prove '..Said' where nothing that the law and all that it calls make is longer than what came in: it says more and counts as full. Else prove '..UptoSaid'. A law counts once. -/
mutual
def uptoBulk {H : Type} : DataW H → Nat
  | .lit (.string bytes) => bytes.length + 1
  | .lit _ => 1
  | .nil => 1
  | .ptr d => uptoBulk d + 1
  | .slice elems spare => uptoBulkAll elems + uptoBulkAll spare + 1
  | .agg parts => uptoBulkAll parts + 1
  | .iface _ d => uptoBulk d + 1
  | .map entries => uptoBulkEntries entries + 1
  | .held _ => 1
def uptoBulkAll {H : Type} : List (DataW H) → Nat
  | [] => 0
  | d :: r => uptoBulk d + uptoBulkAll r
def uptoBulkEntries {H : Type} : List (Lit × DataW H) → Nat
  | [] => 0
  | x :: r => uptoBulkEntry x + uptoBulkEntries r
def uptoBulkEntry {H : Type} : Lit × DataW H → Nat
  | (.string bytes, d) => bytes.length + uptoBulk d + 1
  | (_, d) => uptoBulk d + 1
 end
def uptoSmall : (H : Type) → List (DataW H) → Bool := fun _ ds => decide (uptoBulkAll ds ≤ 1048576)
def OpenSpec.upto (s : _root_.Go.ChangeSpec) : _root_.Go.OpenSpec := { _root_.Go.OpenSpec.ofChange s with cond := some uptoSmall }

/-- 'probitylaw19.GradeLate', WHERE WHAT IT READS IS OF BULK AT MOST 1048576: true; the input reads as it did. -/
def gradeLateUptoRow : OpenClaim := { program := "ytnplnfkmcfalhaa", sum := "1ce2f63ff31c80166374fcdf62927068db4a83c1b10a892d38cd0c1390b855bf", func := "probity/probitylaw19.GradeLate", spec := "gradeLate", recurses := true, plainKeys := false, apart := false, narrowed := true }
def GradeLateUptoSaid : Prop := gradeLateUptoRow.holds Try.pinned (OpenSpec.upto gradeLateSpec)

/-- 'probitylaw19.GradeMedian', WHERE WHAT IT READS IS OF BULK AT MOST 1048576: true; the input reads as it did. -/
def gradeMedianUptoRow : OpenClaim := { program := "ytnplnfkmcfalhaa", sum := "1ce2f63ff31c80166374fcdf62927068db4a83c1b10a892d38cd0c1390b855bf", func := "probity/probitylaw19.GradeMedian", spec := "gradeMedian", recurses := true, plainKeys := false, apart := false, narrowed := true }
def GradeMedianUptoSaid : Prop := gradeMedianUptoRow.holds Try.pinned (OpenSpec.upto gradeMedianSpec)

/-- 'probitylaw19.GradeChanges', WHERE WHAT IT READS IS OF BULK AT MOST 1048576: true; the input reads as it did. -/
def gradeChangesUptoRow : OpenClaim := { program := "ytnplnfkmcfalhaa", sum := "1ce2f63ff31c80166374fcdf62927068db4a83c1b10a892d38cd0c1390b855bf", func := "probity/probitylaw19.GradeChanges", spec := "gradeChanges", recurses := true, plainKeys := false, apart := false, narrowed := true }
def GradeChangesUptoSaid : Prop := gradeChangesUptoRow.holds Try.pinned (OpenSpec.upto gradeChangesSpec)

end Rows
end Go.Proofs.Ytnplnfkmcfalhaa
