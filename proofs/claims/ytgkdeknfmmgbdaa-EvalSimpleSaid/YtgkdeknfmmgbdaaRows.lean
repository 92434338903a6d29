/-
  No cell of these rows narrows 'for every input' (looked for: loops, veiled, ifaces, maps, wideKeys, modest, calm, conditions, laid).
  DERIVED. THE GIVEN ROWS OF THIS SEAT. 10 by the template 'for every input the law returns true; each argument reads behind the call as it read before'; 0 by the template 'total and deterministic' (their statements: YtgkdeknfmmgbdaaTotals.lean).
  GIVEN WITH THE SEED: the statements are not yours to turn. If you find one false, say at which input.
  Laid BY PROGRAM, IN A SANDBOX (cutbox-rows.mjs): the forced cells as the released guide's own fill.sh prints them over the translation a882c5a8f552a5b8… (all of the seat's roots in one cut). By AI agents, Wed Nov 11 2026. No macro, syntax, notation, axiom, sorry.
-/
import Derived.Test.YtgkdeknfmmgbdaaChecked
import GoSem.Claim
import GoSem.ClaimJoined
import GoSem.ClaimMapViews
import Derived.JoinedTies
import Derived.KernelRfl
namespace Go.Proofs.Ytgkdeknfmmgbdaa
/- THE CELL 'sum', in the pinned program and in every row, IS THE sha256 OF THE DUMP (.gsa) THAT YtgkdeknfmmgbdaaProg.lean LOADS. Nothing in Lean hashes anything: it is a label: what it is worth is what the hold of that sum in a sandbox is worth. -/
noncomputable def Try.pinned : Pinned := { name := "ytgkdeknfmmgbdaa", sum := "a882c5a8f552a5b8c067c4b3f39890ad1ac636da9b4e09aa9b0f1998a455fa4c", checked := Try.checked }
namespace Rows
def none {H : Type} : Left H := { results := [], args := [] }

/-- 'probitylaw04.EvalValues': WHATEVER THE INPUT: true; the input reads as it did. -/
def evalValuesSpec : ChangeSpec := { name := "evalValues", fn := fun _ => fun
  | [d1, d2, d3] => { results := [.lit (.bool true)], args := [d1, d2, d3] }
  | _ => none }
def evalValuesRow : OpenClaim := { program := "ytgkdeknfmmgbdaa", sum := "a882c5a8f552a5b8c067c4b3f39890ad1ac636da9b4e09aa9b0f1998a455fa4c", func := "probity/probitylaw04.EvalValues", spec := "evalValues", inPlace := ["math/bits.Add64", "math/bits.Sub64"], unfollowed := true, recurses := true, named := ["math/bits.divideError", "math/bits.overflowError"], apart := false }
def EvalValuesSaid : Prop := evalValuesRow.holds Try.pinned (OpenSpec.ofChange evalValuesSpec)

/-- ITS FALSE NEIGHBOUR: 'it returns false'. Refute it at one input. -/
def evalValuesWrong : ChangeSpec := { name := "evalValues", fn := fun _ => fun
  | [d1, d2, d3] => { results := [.lit (.bool false)], args := [d1, d2, d3] }
  | _ => none }
def EvalValuesWrongFalsely : Prop := evalValuesRow.holds Try.pinned (OpenSpec.ofChange evalValuesWrong)

/-- 'probitylaw04.EvalSimple': WHATEVER THE INPUT: true; the input reads as it did. -/
def evalSimpleSpec : ChangeSpec := { name := "evalSimple", fn := fun _ => fun
  | [d1, d2, d3] => { results := [.lit (.bool true)], args := [d1, d2, d3] }
  | _ => none }
def evalSimpleRow : OpenClaim := { program := "ytgkdeknfmmgbdaa", sum := "a882c5a8f552a5b8c067c4b3f39890ad1ac636da9b4e09aa9b0f1998a455fa4c", func := "probity/probitylaw04.EvalSimple", spec := "evalSimple", inPlace := ["math/bits.Add64", "math/bits.Sub64"], unfollowed := true, recurses := true, named := ["math/bits.divideError", "math/bits.overflowError"], apart := false }
def EvalSimpleSaid : Prop := evalSimpleRow.holds Try.pinned (OpenSpec.ofChange evalSimpleSpec)

/-- ITS FALSE NEIGHBOUR: 'it returns false'. Refute it at one input. -/
def evalSimpleWrong : ChangeSpec := { name := "evalSimple", fn := fun _ => fun
  | [d1, d2, d3] => { results := [.lit (.bool false)], args := [d1, d2, d3] }
  | _ => none }
def EvalSimpleWrongFalsely : Prop := evalSimpleRow.holds Try.pinned (OpenSpec.ofChange evalSimpleWrong)

/-- 'probitylaw04.EvalLaws': WHATEVER THE INPUT: true; the input reads as it did. -/
def evalLawsSpec : ChangeSpec := { name := "evalLaws", fn := fun _ => fun
  | [d1, d2, d3] => { results := [.lit (.bool true)], args := [d1, d2, d3] }
  | _ => none }
def evalLawsRow : OpenClaim := { program := "ytgkdeknfmmgbdaa", sum := "a882c5a8f552a5b8c067c4b3f39890ad1ac636da9b4e09aa9b0f1998a455fa4c", func := "probity/probitylaw04.EvalLaws", spec := "evalLaws", inPlace := ["math/bits.Add64", "math/bits.Sub64"], unfollowed := true, recurses := true, named := ["math/bits.divideError", "math/bits.overflowError"], apart := false }
def EvalLawsSaid : Prop := evalLawsRow.holds Try.pinned (OpenSpec.ofChange evalLawsSpec)

/-- ITS FALSE NEIGHBOUR: 'it returns false'. Refute it at one input. -/
def evalLawsWrong : ChangeSpec := { name := "evalLaws", fn := fun _ => fun
  | [d1, d2, d3] => { results := [.lit (.bool false)], args := [d1, d2, d3] }
  | _ => none }
def EvalLawsWrongFalsely : Prop := evalLawsRow.holds Try.pinned (OpenSpec.ofChange evalLawsWrong)

/-- 'probitylaw04.EvalNames': WHATEVER THE INPUT: true; the input reads as it did. -/
def evalNamesSpec : ChangeSpec := { name := "evalNames", fn := fun _ => fun
  | [d1, d2, d3] => { results := [.lit (.bool true)], args := [d1, d2, d3] }
  | _ => none }
def evalNamesRow : OpenClaim := { program := "ytgkdeknfmmgbdaa", sum := "a882c5a8f552a5b8c067c4b3f39890ad1ac636da9b4e09aa9b0f1998a455fa4c", func := "probity/probitylaw04.EvalNames", spec := "evalNames", inPlace := ["math/bits.Add64", "math/bits.Sub64"], unfollowed := true, recurses := true, named := ["math/bits.divideError", "math/bits.overflowError"], apart := false }
def EvalNamesSaid : Prop := evalNamesRow.holds Try.pinned (OpenSpec.ofChange evalNamesSpec)

/-- ITS FALSE NEIGHBOUR: 'it returns false'. Refute it at one input. -/
def evalNamesWrong : ChangeSpec := { name := "evalNames", fn := fun _ => fun
  | [d1, d2, d3] => { results := [.lit (.bool false)], args := [d1, d2, d3] }
  | _ => none }
def EvalNamesWrongFalsely : Prop := evalNamesRow.holds Try.pinned (OpenSpec.ofChange evalNamesWrong)

/-- 'probitylaw04.EvalLimits': WHATEVER THE INPUT: true; the input reads as it did. -/
def evalLimitsSpec : ChangeSpec := { name := "evalLimits", fn := fun _ => fun
  | [d1, d2, d3] => { results := [.lit (.bool true)], args := [d1, d2, d3] }
  | _ => none }
def evalLimitsRow : OpenClaim := { program := "ytgkdeknfmmgbdaa", sum := "a882c5a8f552a5b8c067c4b3f39890ad1ac636da9b4e09aa9b0f1998a455fa4c", func := "probity/probitylaw04.EvalLimits", spec := "evalLimits", inPlace := ["math/bits.Add64", "math/bits.Sub64"], unfollowed := true, recurses := true, named := ["math/bits.divideError", "math/bits.overflowError"], apart := false }
def EvalLimitsSaid : Prop := evalLimitsRow.holds Try.pinned (OpenSpec.ofChange evalLimitsSpec)

/-- ITS FALSE NEIGHBOUR: 'it returns false'. Refute it at one input. -/
def evalLimitsWrong : ChangeSpec := { name := "evalLimits", fn := fun _ => fun
  | [d1, d2, d3] => { results := [.lit (.bool false)], args := [d1, d2, d3] }
  | _ => none }
def EvalLimitsWrongFalsely : Prop := evalLimitsRow.holds Try.pinned (OpenSpec.ofChange evalLimitsWrong)

/-- 'probitylaw04.EvalSteep': WHATEVER THE INPUT: true; the input reads as it did. -/
def evalSteepSpec : ChangeSpec := { name := "evalSteep", fn := fun _ => fun
  | [d1, d2, d3] => { results := [.lit (.bool true)], args := [d1, d2, d3] }
  | _ => none }
def evalSteepRow : OpenClaim := { program := "ytgkdeknfmmgbdaa", sum := "a882c5a8f552a5b8c067c4b3f39890ad1ac636da9b4e09aa9b0f1998a455fa4c", func := "probity/probitylaw04.EvalSteep", spec := "evalSteep", inPlace := ["math/bits.Add64", "math/bits.Sub64"], unfollowed := true, recurses := true, named := ["math/bits.divideError", "math/bits.overflowError"], apart := false }
def EvalSteepSaid : Prop := evalSteepRow.holds Try.pinned (OpenSpec.ofChange evalSteepSpec)

/-- ITS FALSE NEIGHBOUR: 'it returns false'. Refute it at one input. -/
def evalSteepWrong : ChangeSpec := { name := "evalSteep", fn := fun _ => fun
  | [d1, d2, d3] => { results := [.lit (.bool false)], args := [d1, d2, d3] }
  | _ => none }
def EvalSteepWrongFalsely : Prop := evalSteepRow.holds Try.pinned (OpenSpec.ofChange evalSteepWrong)

/-- 'probitylaw04.EvalPoints': WHATEVER THE INPUT: true; the input reads as it did. -/
def evalPointsSpec : ChangeSpec := { name := "evalPoints", fn := fun _ => fun
  | [d1, d2, d3] => { results := [.lit (.bool true)], args := [d1, d2, d3] }
  | _ => none }
def evalPointsRow : OpenClaim := { program := "ytgkdeknfmmgbdaa", sum := "a882c5a8f552a5b8c067c4b3f39890ad1ac636da9b4e09aa9b0f1998a455fa4c", func := "probity/probitylaw04.EvalPoints", spec := "evalPoints", inPlace := ["math/bits.Add64", "math/bits.Sub64"], unfollowed := true, recurses := true, named := ["math/bits.divideError", "math/bits.overflowError"], apart := false }
def EvalPointsSaid : Prop := evalPointsRow.holds Try.pinned (OpenSpec.ofChange evalPointsSpec)

/-- ITS FALSE NEIGHBOUR: 'it returns false'. Refute it at one input. -/
def evalPointsWrong : ChangeSpec := { name := "evalPoints", fn := fun _ => fun
  | [d1, d2, d3] => { results := [.lit (.bool false)], args := [d1, d2, d3] }
  | _ => none }
def EvalPointsWrongFalsely : Prop := evalPointsRow.holds Try.pinned (OpenSpec.ofChange evalPointsWrong)

/-- 'probitylaw04.EvalKeeps': WHATEVER THE INPUT: true; the input reads as it did. -/
def evalKeepsSpec : ChangeSpec := { name := "evalKeeps", fn := fun _ => fun
  | [d1, d2] => { results := [.lit (.bool true)], args := [d1, d2] }
  | _ => none }
def evalKeepsRow : OpenClaim := { program := "ytgkdeknfmmgbdaa", sum := "a882c5a8f552a5b8c067c4b3f39890ad1ac636da9b4e09aa9b0f1998a455fa4c", func := "probity/probitylaw04.EvalKeeps", spec := "evalKeeps", inPlace := ["math/bits.Add64", "math/bits.Sub64"], unfollowed := true, recurses := true, named := ["math/bits.divideError", "math/bits.overflowError"], apart := false }
def EvalKeepsSaid : Prop := evalKeepsRow.holds Try.pinned (OpenSpec.ofChange evalKeepsSpec)

/-- ITS FALSE NEIGHBOUR: 'it returns false'. Refute it at one input. -/
def evalKeepsWrong : ChangeSpec := { name := "evalKeeps", fn := fun _ => fun
  | [d1, d2] => { results := [.lit (.bool false)], args := [d1, d2] }
  | _ => none }
def EvalKeepsWrongFalsely : Prop := evalKeepsRow.holds Try.pinned (OpenSpec.ofChange evalKeepsWrong)

/-- 'probitylaw04.EvalAdmits': WHATEVER THE INPUT: true; the input reads as it did. -/
def evalAdmitsSpec : ChangeSpec := { name := "evalAdmits", fn := fun _ => fun
  | [d] => { results := [.lit (.bool true)], args := [d] }
  | _ => none }
def evalAdmitsRow : OpenClaim := { program := "ytgkdeknfmmgbdaa", sum := "a882c5a8f552a5b8c067c4b3f39890ad1ac636da9b4e09aa9b0f1998a455fa4c", func := "probity/probitylaw04.EvalAdmits", spec := "evalAdmits", inPlace := ["math/bits.Add64", "math/bits.Sub64"], unfollowed := true, recurses := true, named := ["math/bits.divideError", "math/bits.overflowError"], apart := false }
def EvalAdmitsSaid : Prop := evalAdmitsRow.holds Try.pinned (OpenSpec.ofChange evalAdmitsSpec)

/-- ITS FALSE NEIGHBOUR: 'it returns false'. Refute it at one input. -/
def evalAdmitsWrong : ChangeSpec := { name := "evalAdmits", fn := fun _ => fun
  | [d] => { results := [.lit (.bool false)], args := [d] }
  | _ => none }
def EvalAdmitsWrongFalsely : Prop := evalAdmitsRow.holds Try.pinned (OpenSpec.ofChange evalAdmitsWrong)

/-- 'probitylaw04.EvalFits': WHATEVER THE INPUT: true; the input reads as it did. -/
def evalFitsSpec : ChangeSpec := { name := "evalFits", fn := fun _ => fun
  | [d] => { results := [.lit (.bool true)], args := [d] }
  | _ => none }
def evalFitsRow : OpenClaim := { program := "ytgkdeknfmmgbdaa", sum := "a882c5a8f552a5b8c067c4b3f39890ad1ac636da9b4e09aa9b0f1998a455fa4c", func := "probity/probitylaw04.EvalFits", spec := "evalFits", inPlace := ["math/bits.Add64", "math/bits.Sub64"], unfollowed := true, recurses := true, named := ["math/bits.divideError", "math/bits.overflowError"], apart := false }
def EvalFitsSaid : Prop := evalFitsRow.holds Try.pinned (OpenSpec.ofChange evalFitsSpec)

/-- ITS FALSE NEIGHBOUR: 'it returns false'. Refute it at one input. -/
def evalFitsWrong : ChangeSpec := { name := "evalFits", fn := fun _ => fun
  | [d] => { results := [.lit (.bool false)], args := [d] }
  | _ => none }
def EvalFitsWrongFalsely : Prop := evalFitsRow.holds Try.pinned (OpenSpec.ofChange evalFitsWrong)

/- THE SECOND FORM. 'bulk': how many values and letters a reading holds, each counted each time it is reached (what is shared counts as often as it is met; a slice's spare places count too). A statement '..UptoSaid' is the law's where the arguments, and the package variables that the reading takes, are together of bulk at most 1048576: NARROWER than '..Said'. Prove '..Said' where nothing that the law and all that it calls make is longer than what came in: it says more and counts as full. Else prove '..UptoSaid'. A law counts once. -/
mutual
def uptoBulk {H : Type} : DataW H → Nat
  | .lit (.string bytes) => bytes.length + 1
  | .lit _ => 1
  | .nil => 1
  | .ptr d => uptoBulk d + 1
  | .slice elems spare => uptoBulkAll elems + uptoBulkAll spare + 1
  | .agg parts => uptoBulkAll parts + 1
  | .iface _ d => uptoBulk d + 1
  | .map entries => uptoBulkEntries entries + 1
  | .held _ => 1
def uptoBulkAll {H : Type} : List (DataW H) → Nat
  | [] => 0
  | d :: r => uptoBulk d + uptoBulkAll r
def uptoBulkEntries {H : Type} : List (Lit × DataW H) → Nat
  | [] => 0
  | x :: r => uptoBulkEntry x + uptoBulkEntries r
def uptoBulkEntry {H : Type} : Lit × DataW H → Nat
  | (.string bytes, d) => bytes.length + uptoBulk d + 1
  | (_, d) => uptoBulk d + 1
 end
def uptoSmall : (H : Type) → List (DataW H) → Bool := fun _ ds => decide (uptoBulkAll ds ≤ 1048576)
def OpenSpec.upto (s : _root_.Go.ChangeSpec) : _root_.Go.OpenSpec := { _root_.Go.OpenSpec.ofChange s with cond := some uptoSmall }

/-- 'probitylaw04.EvalValues', WHERE WHAT IT READS IS OF BULK AT MOST 1048576: true; the input reads as it did. -/
def evalValuesUptoRow : OpenClaim := { program := "ytgkdeknfmmgbdaa", sum := "a882c5a8f552a5b8c067c4b3f39890ad1ac636da9b4e09aa9b0f1998a455fa4c", func := "probity/probitylaw04.EvalValues", spec := "evalValues", inPlace := ["math/bits.Add64", "math/bits.Sub64"], unfollowed := true, recurses := true, named := ["math/bits.divideError", "math/bits.overflowError"], apart := false, narrowed := true }
def EvalValuesUptoSaid : Prop := evalValuesUptoRow.holds Try.pinned (OpenSpec.upto evalValuesSpec)

/-- 'probitylaw04.EvalSimple', WHERE WHAT IT READS IS OF BULK AT MOST 1048576: true; the input reads as it did. -/
def evalSimpleUptoRow : OpenClaim := { program := "ytgkdeknfmmgbdaa", sum := "a882c5a8f552a5b8c067c4b3f39890ad1ac636da9b4e09aa9b0f1998a455fa4c", func := "probity/probitylaw04.EvalSimple", spec := "evalSimple", inPlace := ["math/bits.Add64", "math/bits.Sub64"], unfollowed := true, recurses := true, named := ["math/bits.divideError", "math/bits.overflowError"], apart := false, narrowed := true }
def EvalSimpleUptoSaid : Prop := evalSimpleUptoRow.holds Try.pinned (OpenSpec.upto evalSimpleSpec)

/-- 'probitylaw04.EvalLaws', WHERE WHAT IT READS IS OF BULK AT MOST 1048576: true; the input reads as it did. -/
def evalLawsUptoRow : OpenClaim := { program := "ytgkdeknfmmgbdaa", sum := "a882c5a8f552a5b8c067c4b3f39890ad1ac636da9b4e09aa9b0f1998a455fa4c", func := "probity/probitylaw04.EvalLaws", spec := "evalLaws", inPlace := ["math/bits.Add64", "math/bits.Sub64"], unfollowed := true, recurses := true, named := ["math/bits.divideError", "math/bits.overflowError"], apart := false, narrowed := true }
def EvalLawsUptoSaid : Prop := evalLawsUptoRow.holds Try.pinned (OpenSpec.upto evalLawsSpec)

/-- 'probitylaw04.EvalNames', WHERE WHAT IT READS IS OF BULK AT MOST 1048576: true; the input reads as it did. -/
def evalNamesUptoRow : OpenClaim := { program := "ytgkdeknfmmgbdaa", sum := "a882c5a8f552a5b8c067c4b3f39890ad1ac636da9b4e09aa9b0f1998a455fa4c", func := "probity/probitylaw04.EvalNames", spec := "evalNames", inPlace := ["math/bits.Add64", "math/bits.Sub64"], unfollowed := true, recurses := true, named := ["math/bits.divideError", "math/bits.overflowError"], apart := false, narrowed := true }
def EvalNamesUptoSaid : Prop := evalNamesUptoRow.holds Try.pinned (OpenSpec.upto evalNamesSpec)

/-- 'probitylaw04.EvalLimits', WHERE WHAT IT READS IS OF BULK AT MOST 1048576: true; the input reads as it did. -/
def evalLimitsUptoRow : OpenClaim := { program := "ytgkdeknfmmgbdaa", sum := "a882c5a8f552a5b8c067c4b3f39890ad1ac636da9b4e09aa9b0f1998a455fa4c", func := "probity/probitylaw04.EvalLimits", spec := "evalLimits", inPlace := ["math/bits.Add64", "math/bits.Sub64"], unfollowed := true, recurses := true, named := ["math/bits.divideError", "math/bits.overflowError"], apart := false, narrowed := true }
def EvalLimitsUptoSaid : Prop := evalLimitsUptoRow.holds Try.pinned (OpenSpec.upto evalLimitsSpec)

/-- 'probitylaw04.EvalSteep', WHERE WHAT IT READS IS OF BULK AT MOST 1048576: true; the input reads as it did. -/
def evalSteepUptoRow : OpenClaim := { program := "ytgkdeknfmmgbdaa", sum := "a882c5a8f552a5b8c067c4b3f39890ad1ac636da9b4e09aa9b0f1998a455fa4c", func := "probity/probitylaw04.EvalSteep", spec := "evalSteep", inPlace := ["math/bits.Add64", "math/bits.Sub64"], unfollowed := true, recurses := true, named := ["math/bits.divideError", "math/bits.overflowError"], apart := false, narrowed := true }
def EvalSteepUptoSaid : Prop := evalSteepUptoRow.holds Try.pinned (OpenSpec.upto evalSteepSpec)

/-- 'probitylaw04.EvalPoints', WHERE WHAT IT READS IS OF BULK AT MOST 1048576: true; the input reads as it did. -/
def evalPointsUptoRow : OpenClaim := { program := "ytgkdeknfmmgbdaa", sum := "a882c5a8f552a5b8c067c4b3f39890ad1ac636da9b4e09aa9b0f1998a455fa4c", func := "probity/probitylaw04.EvalPoints", spec := "evalPoints", inPlace := ["math/bits.Add64", "math/bits.Sub64"], unfollowed := true, recurses := true, named := ["math/bits.divideError", "math/bits.overflowError"], apart := false, narrowed := true }
def EvalPointsUptoSaid : Prop := evalPointsUptoRow.holds Try.pinned (OpenSpec.upto evalPointsSpec)

/-- 'probitylaw04.EvalKeeps', WHERE WHAT IT READS IS OF BULK AT MOST 1048576: true; the input reads as it did. -/
def evalKeepsUptoRow : OpenClaim := { program := "ytgkdeknfmmgbdaa", sum := "a882c5a8f552a5b8c067c4b3f39890ad1ac636da9b4e09aa9b0f1998a455fa4c", func := "probity/probitylaw04.EvalKeeps", spec := "evalKeeps", inPlace := ["math/bits.Add64", "math/bits.Sub64"], unfollowed := true, recurses := true, named := ["math/bits.divideError", "math/bits.overflowError"], apart := false, narrowed := true }
def EvalKeepsUptoSaid : Prop := evalKeepsUptoRow.holds Try.pinned (OpenSpec.upto evalKeepsSpec)

/-- 'probitylaw04.EvalAdmits', WHERE WHAT IT READS IS OF BULK AT MOST 1048576: true; the input reads as it did. -/
def evalAdmitsUptoRow : OpenClaim := { program := "ytgkdeknfmmgbdaa", sum := "a882c5a8f552a5b8c067c4b3f39890ad1ac636da9b4e09aa9b0f1998a455fa4c", func := "probity/probitylaw04.EvalAdmits", spec := "evalAdmits", inPlace := ["math/bits.Add64", "math/bits.Sub64"], unfollowed := true, recurses := true, named := ["math/bits.divideError", "math/bits.overflowError"], apart := false, narrowed := true }
def EvalAdmitsUptoSaid : Prop := evalAdmitsUptoRow.holds Try.pinned (OpenSpec.upto evalAdmitsSpec)

/-- 'probitylaw04.EvalFits', WHERE WHAT IT READS IS OF BULK AT MOST 1048576: true; the input reads as it did. -/
def evalFitsUptoRow : OpenClaim := { program := "ytgkdeknfmmgbdaa", sum := "a882c5a8f552a5b8c067c4b3f39890ad1ac636da9b4e09aa9b0f1998a455fa4c", func := "probity/probitylaw04.EvalFits", spec := "evalFits", inPlace := ["math/bits.Add64", "math/bits.Sub64"], unfollowed := true, recurses := true, named := ["math/bits.divideError", "math/bits.overflowError"], apart := false, narrowed := true }
def EvalFitsUptoSaid : Prop := evalFitsUptoRow.holds Try.pinned (OpenSpec.upto evalFitsSpec)

end Rows
end Go.Proofs.Ytgkdeknfmmgbdaa
