/-
  No cell of these rows narrows 'for every input' (looked for: loops, veiled, ifaces, maps, wideKeys, modest, calm, conditions, laid).
  DERIVED. THE GIVEN ROWS OF THIS SEAT. 8 by the template 'for every input the law returns true; each argument reads behind the call as it read before'; 0 by the template 'total and deterministic' (their statements: YteomcpplajeidaaGreatTotals.lean).
  GIVEN WITH THE SEED: the statements are not yours to turn. If you find one false, say at which input.
  Laid BY PROGRAM, IN A SANDBOX (cutbox-rows.mjs): the forced cells as the released guide's own fill.sh prints them over the translation 4800334e0df7584a… (all of the seat's roots in one cut). By AI agents, Wed Nov 11 2026. No macro, syntax, notation, axiom, sorry.
-/
import Derived.Test.YteomcpplajeidaaGreatChecked
import GoSem.Claim
import GoSem.ClaimJoined
import GoSem.ClaimMapViews
import Derived.JoinedTies
import Derived.KernelRfl
namespace Go.Proofs.YteomcpplajeidaaGreat
/- THE CELL 'sum', in the pinned program and in every row, IS THE sha256 OF THE DUMP (.gsa) THAT YteomcpplajeidaaGreatProg.lean LOADS. Nothing in Lean hashes anything: it is a label: what it is worth is what the hold of that sum in a sandbox is worth. -/
noncomputable def Tryz.pinned : Pinned := { name := "yteomcpplajeidaagreat", sum := "4800334e0df7584a6172444da3270abc7aa217ae51b4aea82da681707fdeff76", checked := Tryz.checked }
namespace Rows
def none {H : Type} : Left H := { results := [], args := [] }

/-- 'probitylaw05.ScoreRanks': WHATEVER THE INPUT: true; the input reads as it did. -/
def scoreRanksSpec : ChangeSpec := { name := "scoreRanks", fn := fun _ => fun
  | [d1, d2, d3] => { results := [.lit (.bool true)], args := [d1, d2, d3] }
  | _ => none }
def scoreRanksRow : OpenClaim := { program := "yteomcpplajeidaagreat", sum := "4800334e0df7584a6172444da3270abc7aa217ae51b4aea82da681707fdeff76", func := "probity/probitylaw05.ScoreRanks", spec := "scoreRanks", inPlace := ["math/bits.Add64", "math/bits.Sub64"], unfollowed := true, recurses := true, named := ["math/bits.divideError", "math/bits.overflowError"], apart := false }
def ScoreRanksSaid : Prop := scoreRanksRow.holds Tryz.pinned (OpenSpec.ofChange scoreRanksSpec)

/-- ITS FALSE NEIGHBOUR: 'it returns false'. Refute it at one input. -/
def scoreRanksWrong : ChangeSpec := { name := "scoreRanks", fn := fun _ => fun
  | [d1, d2, d3] => { results := [.lit (.bool false)], args := [d1, d2, d3] }
  | _ => none }
def ScoreRanksWrongFalsely : Prop := scoreRanksRow.holds Tryz.pinned (OpenSpec.ofChange scoreRanksWrong)

/-- 'probitylaw05.ScoreBetter': WHATEVER THE INPUT: true; the input reads as it did. -/
def scoreBetterSpec : ChangeSpec := { name := "scoreBetter", fn := fun _ => fun
  | [d1, d2, d3] => { results := [.lit (.bool true)], args := [d1, d2, d3] }
  | _ => none }
def scoreBetterRow : OpenClaim := { program := "yteomcpplajeidaagreat", sum := "4800334e0df7584a6172444da3270abc7aa217ae51b4aea82da681707fdeff76", func := "probity/probitylaw05.ScoreBetter", spec := "scoreBetter", inPlace := ["math/bits.Add64", "math/bits.Sub64"], unfollowed := true, recurses := true, named := ["math/bits.divideError", "math/bits.overflowError"], apart := false }
def ScoreBetterSaid : Prop := scoreBetterRow.holds Tryz.pinned (OpenSpec.ofChange scoreBetterSpec)

/-- ITS FALSE NEIGHBOUR: 'it returns false'. Refute it at one input. -/
def scoreBetterWrong : ChangeSpec := { name := "scoreBetter", fn := fun _ => fun
  | [d1, d2, d3] => { results := [.lit (.bool false)], args := [d1, d2, d3] }
  | _ => none }
def ScoreBetterWrongFalsely : Prop := scoreBetterRow.holds Tryz.pinned (OpenSpec.ofChange scoreBetterWrong)

/-- 'probitylaw05.ScoreOrder': WHATEVER THE INPUT: true; the input reads as it did. -/
def scoreOrderSpec : ChangeSpec := { name := "scoreOrder", fn := fun _ => fun
  | [d1, d2] => { results := [.lit (.bool true)], args := [d1, d2] }
  | _ => none }
def scoreOrderRow : OpenClaim := { program := "yteomcpplajeidaagreat", sum := "4800334e0df7584a6172444da3270abc7aa217ae51b4aea82da681707fdeff76", func := "probity/probitylaw05.ScoreOrder", spec := "scoreOrder", inPlace := ["math/bits.Add64", "math/bits.Sub64"], unfollowed := true, recurses := true, named := ["math/bits.divideError", "math/bits.overflowError"], apart := false }
def ScoreOrderSaid : Prop := scoreOrderRow.holds Tryz.pinned (OpenSpec.ofChange scoreOrderSpec)

/-- ITS FALSE NEIGHBOUR: 'it returns false'. Refute it at one input. -/
def scoreOrderWrong : ChangeSpec := { name := "scoreOrder", fn := fun _ => fun
  | [d1, d2] => { results := [.lit (.bool false)], args := [d1, d2] }
  | _ => none }
def ScoreOrderWrongFalsely : Prop := scoreOrderRow.holds Tryz.pinned (OpenSpec.ofChange scoreOrderWrong)

/-- 'probitylaw05.ScoreMoves': WHATEVER THE INPUT: true; the input reads as it did. -/
def scoreMovesSpec : ChangeSpec := { name := "scoreMoves", fn := fun _ => fun
  | [d1, d2, d3] => { results := [.lit (.bool true)], args := [d1, d2, d3] }
  | _ => none }
def scoreMovesRow : OpenClaim := { program := "yteomcpplajeidaagreat", sum := "4800334e0df7584a6172444da3270abc7aa217ae51b4aea82da681707fdeff76", func := "probity/probitylaw05.ScoreMoves", spec := "scoreMoves", inPlace := ["math/bits.Add64", "math/bits.Sub64"], unfollowed := true, recurses := true, named := ["math/bits.divideError", "math/bits.overflowError"], apart := false }
def ScoreMovesSaid : Prop := scoreMovesRow.holds Tryz.pinned (OpenSpec.ofChange scoreMovesSpec)

/-- ITS FALSE NEIGHBOUR: 'it returns false'. Refute it at one input. -/
def scoreMovesWrong : ChangeSpec := { name := "scoreMoves", fn := fun _ => fun
  | [d1, d2, d3] => { results := [.lit (.bool false)], args := [d1, d2, d3] }
  | _ => none }
def ScoreMovesWrongFalsely : Prop := scoreMovesRow.holds Tryz.pinned (OpenSpec.ofChange scoreMovesWrong)

/-- 'probitylaw05.ScoreRemoves': WHATEVER THE INPUT: true; the input reads as it did. -/
def scoreRemovesSpec : ChangeSpec := { name := "scoreRemoves", fn := fun _ => fun
  | [d1, d2, d3] => { results := [.lit (.bool true)], args := [d1, d2, d3] }
  | _ => none }
def scoreRemovesRow : OpenClaim := { program := "yteomcpplajeidaagreat", sum := "4800334e0df7584a6172444da3270abc7aa217ae51b4aea82da681707fdeff76", func := "probity/probitylaw05.ScoreRemoves", spec := "scoreRemoves", inPlace := ["math/bits.Add64", "math/bits.Sub64"], unfollowed := true, recurses := true, named := ["math/bits.divideError", "math/bits.overflowError"], apart := false }
def ScoreRemovesSaid : Prop := scoreRemovesRow.holds Tryz.pinned (OpenSpec.ofChange scoreRemovesSpec)

/-- ITS FALSE NEIGHBOUR: 'it returns false'. Refute it at one input. -/
def scoreRemovesWrong : ChangeSpec := { name := "scoreRemoves", fn := fun _ => fun
  | [d1, d2, d3] => { results := [.lit (.bool false)], args := [d1, d2, d3] }
  | _ => none }
def ScoreRemovesWrongFalsely : Prop := scoreRemovesRow.holds Tryz.pinned (OpenSpec.ofChange scoreRemovesWrong)

/-- 'probitylaw05.ScoreWinner': WHATEVER THE INPUT: true; the input reads as it did. -/
def scoreWinnerSpec : ChangeSpec := { name := "scoreWinner", fn := fun _ => fun
  | [d1, d2] => { results := [.lit (.bool true)], args := [d1, d2] }
  | _ => none }
def scoreWinnerRow : OpenClaim := { program := "yteomcpplajeidaagreat", sum := "4800334e0df7584a6172444da3270abc7aa217ae51b4aea82da681707fdeff76", func := "probity/probitylaw05.ScoreWinner", spec := "scoreWinner", inPlace := ["math/bits.Add64", "math/bits.Sub64"], unfollowed := true, recurses := true, named := ["math/bits.divideError", "math/bits.overflowError"], apart := false }
def ScoreWinnerSaid : Prop := scoreWinnerRow.holds Tryz.pinned (OpenSpec.ofChange scoreWinnerSpec)

/-- ITS FALSE NEIGHBOUR: 'it returns false'. Refute it at one input. -/
def scoreWinnerWrong : ChangeSpec := { name := "scoreWinner", fn := fun _ => fun
  | [d1, d2] => { results := [.lit (.bool false)], args := [d1, d2] }
  | _ => none }
def ScoreWinnerWrongFalsely : Prop := scoreWinnerRow.holds Tryz.pinned (OpenSpec.ofChange scoreWinnerWrong)

/-- 'probitylaw05.ScoreTies': WHATEVER THE INPUT: true; the input reads as it did. -/
def scoreTiesSpec : ChangeSpec := { name := "scoreTies", fn := fun _ => fun
  | [d1, d2, d3] => { results := [.lit (.bool true)], args := [d1, d2, d3] }
  | _ => none }
def scoreTiesRow : OpenClaim := { program := "yteomcpplajeidaagreat", sum := "4800334e0df7584a6172444da3270abc7aa217ae51b4aea82da681707fdeff76", func := "probity/probitylaw05.ScoreTies", spec := "scoreTies", inPlace := ["math/bits.Add64", "math/bits.Sub64"], unfollowed := true, recurses := true, named := ["math/bits.divideError", "math/bits.overflowError"], apart := false }
def ScoreTiesSaid : Prop := scoreTiesRow.holds Tryz.pinned (OpenSpec.ofChange scoreTiesSpec)

/-- ITS FALSE NEIGHBOUR: 'it returns false'. Refute it at one input. -/
def scoreTiesWrong : ChangeSpec := { name := "scoreTies", fn := fun _ => fun
  | [d1, d2, d3] => { results := [.lit (.bool false)], args := [d1, d2, d3] }
  | _ => none }
def ScoreTiesWrongFalsely : Prop := scoreTiesRow.holds Tryz.pinned (OpenSpec.ofChange scoreTiesWrong)

/-- 'probitylaw05.ScoreErrors': WHATEVER THE INPUT: true; the input reads as it did. -/
def scoreErrorsSpec : ChangeSpec := { name := "scoreErrors", fn := fun _ => fun
  | [d1, d2] => { results := [.lit (.bool true)], args := [d1, d2] }
  | _ => none }
def scoreErrorsRow : OpenClaim := { program := "yteomcpplajeidaagreat", sum := "4800334e0df7584a6172444da3270abc7aa217ae51b4aea82da681707fdeff76", func := "probity/probitylaw05.ScoreErrors", spec := "scoreErrors", inPlace := ["math/bits.Add64", "math/bits.Sub64"], unfollowed := true, recurses := true, named := ["math/bits.divideError", "math/bits.overflowError"], apart := false }
def ScoreErrorsSaid : Prop := scoreErrorsRow.holds Tryz.pinned (OpenSpec.ofChange scoreErrorsSpec)

/-- ITS FALSE NEIGHBOUR: 'it returns false'. Refute it at one input. -/
def scoreErrorsWrong : ChangeSpec := { name := "scoreErrors", fn := fun _ => fun
  | [d1, d2] => { results := [.lit (.bool false)], args := [d1, d2] }
  | _ => none }
def ScoreErrorsWrongFalsely : Prop := scoreErrorsRow.holds Tryz.pinned (OpenSpec.ofChange scoreErrorsWrong)

/- THE SECOND FORM. 'bulk': how many values and letters a reading holds, each counted each time it is reached (what is shared counts as often as it is met; a slice's spare places count too). A statement '..UptoSaid' is the law's where the arguments, and the package variables that the reading takes, are together of bulk at most 1048576: NARROWER than '..Said'. Prove '..Said' where nothing that the law and all that it calls make is longer than what came in: it says more and counts as full. Else prove '..UptoSaid'. A law counts once. -/
mutual
def uptoBulk {H : Type} : DataW H → Nat
  | .lit (.string bytes) => bytes.length + 1
  | .lit _ => 1
  | .nil => 1
  | .ptr d => uptoBulk d + 1
  | .slice elems spare => uptoBulkAll elems + uptoBulkAll spare + 1
  | .agg parts => uptoBulkAll parts + 1
  | .iface _ d => uptoBulk d + 1
  | .map entries => uptoBulkEntries entries + 1
  | .held _ => 1
def uptoBulkAll {H : Type} : List (DataW H) → Nat
  | [] => 0
  | d :: r => uptoBulk d + uptoBulkAll r
def uptoBulkEntries {H : Type} : List (Lit × DataW H) → Nat
  | [] => 0
  | x :: r => uptoBulkEntry x + uptoBulkEntries r
def uptoBulkEntry {H : Type} : Lit × DataW H → Nat
  | (.string bytes, d) => bytes.length + uptoBulk d + 1
  | (_, d) => uptoBulk d + 1
 end
def uptoSmall : (H : Type) → List (DataW H) → Bool := fun _ ds => decide (uptoBulkAll ds ≤ 1048576)
def OpenSpec.upto (s : _root_.Go.ChangeSpec) : _root_.Go.OpenSpec := { _root_.Go.OpenSpec.ofChange s with cond := some uptoSmall }

/-- 'probitylaw05.ScoreRanks', WHERE WHAT IT READS IS OF BULK AT MOST 1048576: true; the input reads as it did. -/
def scoreRanksUptoRow : OpenClaim := { program := "yteomcpplajeidaagreat", sum := "4800334e0df7584a6172444da3270abc7aa217ae51b4aea82da681707fdeff76", func := "probity/probitylaw05.ScoreRanks", spec := "scoreRanks", inPlace := ["math/bits.Add64", "math/bits.Sub64"], unfollowed := true, recurses := true, named := ["math/bits.divideError", "math/bits.overflowError"], apart := false, narrowed := true }
def ScoreRanksUptoSaid : Prop := scoreRanksUptoRow.holds Tryz.pinned (OpenSpec.upto scoreRanksSpec)

/-- 'probitylaw05.ScoreBetter', WHERE WHAT IT READS IS OF BULK AT MOST 1048576: true; the input reads as it did. -/
def scoreBetterUptoRow : OpenClaim := { program := "yteomcpplajeidaagreat", sum := "4800334e0df7584a6172444da3270abc7aa217ae51b4aea82da681707fdeff76", func := "probity/probitylaw05.ScoreBetter", spec := "scoreBetter", inPlace := ["math/bits.Add64", "math/bits.Sub64"], unfollowed := true, recurses := true, named := ["math/bits.divideError", "math/bits.overflowError"], apart := false, narrowed := true }
def ScoreBetterUptoSaid : Prop := scoreBetterUptoRow.holds Tryz.pinned (OpenSpec.upto scoreBetterSpec)

/-- 'probitylaw05.ScoreOrder', WHERE WHAT IT READS IS OF BULK AT MOST 1048576: true; the input reads as it did. -/
def scoreOrderUptoRow : OpenClaim := { program := "yteomcpplajeidaagreat", sum := "4800334e0df7584a6172444da3270abc7aa217ae51b4aea82da681707fdeff76", func := "probity/probitylaw05.ScoreOrder", spec := "scoreOrder", inPlace := ["math/bits.Add64", "math/bits.Sub64"], unfollowed := true, recurses := true, named := ["math/bits.divideError", "math/bits.overflowError"], apart := false, narrowed := true }
def ScoreOrderUptoSaid : Prop := scoreOrderUptoRow.holds Tryz.pinned (OpenSpec.upto scoreOrderSpec)

/-- 'probitylaw05.ScoreMoves', WHERE WHAT IT READS IS OF BULK AT MOST 1048576: true; the input reads as it did. -/
def scoreMovesUptoRow : OpenClaim := { program := "yteomcpplajeidaagreat", sum := "4800334e0df7584a6172444da3270abc7aa217ae51b4aea82da681707fdeff76", func := "probity/probitylaw05.ScoreMoves", spec := "scoreMoves", inPlace := ["math/bits.Add64", "math/bits.Sub64"], unfollowed := true, recurses := true, named := ["math/bits.divideError", "math/bits.overflowError"], apart := false, narrowed := true }
def ScoreMovesUptoSaid : Prop := scoreMovesUptoRow.holds Tryz.pinned (OpenSpec.upto scoreMovesSpec)

/-- 'probitylaw05.ScoreRemoves', WHERE WHAT IT READS IS OF BULK AT MOST 1048576: true; the input reads as it did. -/
def scoreRemovesUptoRow : OpenClaim := { program := "yteomcpplajeidaagreat", sum := "4800334e0df7584a6172444da3270abc7aa217ae51b4aea82da681707fdeff76", func := "probity/probitylaw05.ScoreRemoves", spec := "scoreRemoves", inPlace := ["math/bits.Add64", "math/bits.Sub64"], unfollowed := true, recurses := true, named := ["math/bits.divideError", "math/bits.overflowError"], apart := false, narrowed := true }
def ScoreRemovesUptoSaid : Prop := scoreRemovesUptoRow.holds Tryz.pinned (OpenSpec.upto scoreRemovesSpec)

/-- 'probitylaw05.ScoreWinner', WHERE WHAT IT READS IS OF BULK AT MOST 1048576: true; the input reads as it did. -/
def scoreWinnerUptoRow : OpenClaim := { program := "yteomcpplajeidaagreat", sum := "4800334e0df7584a6172444da3270abc7aa217ae51b4aea82da681707fdeff76", func := "probity/probitylaw05.ScoreWinner", spec := "scoreWinner", inPlace := ["math/bits.Add64", "math/bits.Sub64"], unfollowed := true, recurses := true, named := ["math/bits.divideError", "math/bits.overflowError"], apart := false, narrowed := true }
def ScoreWinnerUptoSaid : Prop := scoreWinnerUptoRow.holds Tryz.pinned (OpenSpec.upto scoreWinnerSpec)

/-- 'probitylaw05.ScoreTies', WHERE WHAT IT READS IS OF BULK AT MOST 1048576: true; the input reads as it did. -/
def scoreTiesUptoRow : OpenClaim := { program := "yteomcpplajeidaagreat", sum := "4800334e0df7584a6172444da3270abc7aa217ae51b4aea82da681707fdeff76", func := "probity/probitylaw05.ScoreTies", spec := "scoreTies", inPlace := ["math/bits.Add64", "math/bits.Sub64"], unfollowed := true, recurses := true, named := ["math/bits.divideError", "math/bits.overflowError"], apart := false, narrowed := true }
def ScoreTiesUptoSaid : Prop := scoreTiesUptoRow.holds Tryz.pinned (OpenSpec.upto scoreTiesSpec)

/-- 'probitylaw05.ScoreErrors', WHERE WHAT IT READS IS OF BULK AT MOST 1048576: true; the input reads as it did. -/
def scoreErrorsUptoRow : OpenClaim := { program := "yteomcpplajeidaagreat", sum := "4800334e0df7584a6172444da3270abc7aa217ae51b4aea82da681707fdeff76", func := "probity/probitylaw05.ScoreErrors", spec := "scoreErrors", inPlace := ["math/bits.Add64", "math/bits.Sub64"], unfollowed := true, recurses := true, named := ["math/bits.divideError", "math/bits.overflowError"], apart := false, narrowed := true }
def ScoreErrorsUptoSaid : Prop := scoreErrorsUptoRow.holds Tryz.pinned (OpenSpec.upto scoreErrorsSpec)

end Rows
end Go.Proofs.YteomcpplajeidaaGreat
