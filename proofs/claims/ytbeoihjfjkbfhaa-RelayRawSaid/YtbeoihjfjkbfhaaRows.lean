/-
  No cell of these rows narrows 'for every input' (looked for: loops, veiled, ifaces, maps, wideKeys, modest, calm, conditions, laid).
  DERIVED. THE GIVEN ROWS OF THIS SEAT. 8 by the template 'for every input the law returns true; each argument reads behind the call as it read before'; 0 by the template 'total and deterministic' (their statements: YtbeoihjfjkbfhaaTotals.lean).
  GIVEN WITH THE SEED: the statements are not yours to turn. If you find one false, say at which input.
  Laid BY PROGRAM, IN A SANDBOX (cutbox-rows.mjs): the forced cells as the released guide's own fill.sh prints them over the translation 2fbb28d59b9138e4… (all of the seat's roots in one cut). By AI agents, Wed Nov 11 2026. No macro, syntax, notation, axiom, sorry.
-/
import Derived.Test.YtbeoihjfjkbfhaaChecked
import GoSem.Claim
import GoSem.ClaimJoined
import GoSem.ClaimMapViews
import Derived.JoinedTies
import Derived.KernelRfl
namespace Go.Proofs.Ytbeoihjfjkbfhaa
/- THE CELL 'sum', in the pinned program and in every row, IS THE sha256 OF THE DUMP (.gsa) THAT YtbeoihjfjkbfhaaProg.lean LOADS. Nothing in Lean hashes anything: it is a label: what it is worth is what the hold of that sum in a sandbox is worth. -/
noncomputable def Try.pinned : Pinned := { name := "ytbeoihjfjkbfhaa", sum := "2fbb28d59b9138e4a35566b950ef4c7d31fa57ce170cb16e1c5b7f0041e91e62", checked := Try.checked }
namespace Rows
def none {H : Type} : Left H := { results := [], args := [] }

/-- 'probitylaw15.RelayPlays': WHATEVER THE INPUT: true; the input reads as it did. -/
def relayPlaysSpec : ChangeSpec := { name := "relayPlays", fn := fun _ => fun
  | [d1, d2] => { results := [.lit (.bool true)], args := [d1, d2] }
  | _ => none }
def relayPlaysRow : OpenClaim := { program := "ytbeoihjfjkbfhaa", sum := "2fbb28d59b9138e4a35566b950ef4c7d31fa57ce170cb16e1c5b7f0041e91e62", func := "probity/probitylaw15.RelayPlays", spec := "relayPlays", inPlace := ["internal/bytealg.Compare", "internal/bytealg.abigen_runtime_cmpstring"], unfollowed := true, recurses := true, plainKeys := false, apart := false }
def RelayPlaysSaid : Prop := relayPlaysRow.holds Try.pinned (OpenSpec.ofChange relayPlaysSpec)

/-- ITS FALSE NEIGHBOUR: 'it returns false'. Refute it at one input. -/
def relayPlaysWrong : ChangeSpec := { name := "relayPlays", fn := fun _ => fun
  | [d1, d2] => { results := [.lit (.bool false)], args := [d1, d2] }
  | _ => none }
def RelayPlaysWrongFalsely : Prop := relayPlaysRow.holds Try.pinned (OpenSpec.ofChange relayPlaysWrong)

/-- 'probitylaw15.RelayRaw': WHATEVER THE INPUT: true; the input reads as it did. -/
def relayRawSpec : ChangeSpec := { name := "relayRaw", fn := fun _ => fun
  | [d1, d2, d3] => { results := [.lit (.bool true)], args := [d1, d2, d3] }
  | _ => none }
def relayRawRow : OpenClaim := { program := "ytbeoihjfjkbfhaa", sum := "2fbb28d59b9138e4a35566b950ef4c7d31fa57ce170cb16e1c5b7f0041e91e62", func := "probity/probitylaw15.RelayRaw", spec := "relayRaw", inPlace := ["internal/bytealg.Compare", "internal/bytealg.abigen_runtime_cmpstring"], unfollowed := true, recurses := true, plainKeys := false, apart := false }
def RelayRawSaid : Prop := relayRawRow.holds Try.pinned (OpenSpec.ofChange relayRawSpec)

/-- ITS FALSE NEIGHBOUR: 'it returns false'. Refute it at one input. -/
def relayRawWrong : ChangeSpec := { name := "relayRaw", fn := fun _ => fun
  | [d1, d2, d3] => { results := [.lit (.bool false)], args := [d1, d2, d3] }
  | _ => none }
def RelayRawWrongFalsely : Prop := relayRawRow.holds Try.pinned (OpenSpec.ofChange relayRawWrong)

/-- 'probitylaw15.RelayBlind': WHATEVER THE INPUT: true; the input reads as it did. -/
def relayBlindSpec : ChangeSpec := { name := "relayBlind", fn := fun _ => fun
  | [d1, d2, d3] => { results := [.lit (.bool true)], args := [d1, d2, d3] }
  | _ => none }
def relayBlindRow : OpenClaim := { program := "ytbeoihjfjkbfhaa", sum := "2fbb28d59b9138e4a35566b950ef4c7d31fa57ce170cb16e1c5b7f0041e91e62", func := "probity/probitylaw15.RelayBlind", spec := "relayBlind", inPlace := ["internal/bytealg.Compare", "internal/bytealg.abigen_runtime_cmpstring"], unfollowed := true, recurses := true, plainKeys := false, apart := false }
def RelayBlindSaid : Prop := relayBlindRow.holds Try.pinned (OpenSpec.ofChange relayBlindSpec)

/-- ITS FALSE NEIGHBOUR: 'it returns false'. Refute it at one input. -/
def relayBlindWrong : ChangeSpec := { name := "relayBlind", fn := fun _ => fun
  | [d1, d2, d3] => { results := [.lit (.bool false)], args := [d1, d2, d3] }
  | _ => none }
def RelayBlindWrongFalsely : Prop := relayBlindRow.holds Try.pinned (OpenSpec.ofChange relayBlindWrong)

/-- 'probitylaw15.RelayOnce': WHATEVER THE INPUT: true; the input reads as it did. -/
def relayOnceSpec : ChangeSpec := { name := "relayOnce", fn := fun _ => fun
  | [d1, d2] => { results := [.lit (.bool true)], args := [d1, d2] }
  | _ => none }
def relayOnceRow : OpenClaim := { program := "ytbeoihjfjkbfhaa", sum := "2fbb28d59b9138e4a35566b950ef4c7d31fa57ce170cb16e1c5b7f0041e91e62", func := "probity/probitylaw15.RelayOnce", spec := "relayOnce", inPlace := ["internal/bytealg.Compare", "internal/bytealg.abigen_runtime_cmpstring"], unfollowed := true, recurses := true, plainKeys := false, apart := false }
def RelayOnceSaid : Prop := relayOnceRow.holds Try.pinned (OpenSpec.ofChange relayOnceSpec)

/-- ITS FALSE NEIGHBOUR: 'it returns false'. Refute it at one input. -/
def relayOnceWrong : ChangeSpec := { name := "relayOnce", fn := fun _ => fun
  | [d1, d2] => { results := [.lit (.bool false)], args := [d1, d2] }
  | _ => none }
def RelayOnceWrongFalsely : Prop := relayOnceRow.holds Try.pinned (OpenSpec.ofChange relayOnceWrong)

/-- 'probitylaw15.RelayWaits': WHATEVER THE INPUT: true; the input reads as it did. -/
def relayWaitsSpec : ChangeSpec := { name := "relayWaits", fn := fun _ => fun
  | [d1, d2, d3] => { results := [.lit (.bool true)], args := [d1, d2, d3] }
  | _ => none }
def relayWaitsRow : OpenClaim := { program := "ytbeoihjfjkbfhaa", sum := "2fbb28d59b9138e4a35566b950ef4c7d31fa57ce170cb16e1c5b7f0041e91e62", func := "probity/probitylaw15.RelayWaits", spec := "relayWaits", inPlace := ["internal/bytealg.Compare", "internal/bytealg.abigen_runtime_cmpstring"], unfollowed := true, recurses := true, plainKeys := false, apart := false }
def RelayWaitsSaid : Prop := relayWaitsRow.holds Try.pinned (OpenSpec.ofChange relayWaitsSpec)

/-- ITS FALSE NEIGHBOUR: 'it returns false'. Refute it at one input. -/
def relayWaitsWrong : ChangeSpec := { name := "relayWaits", fn := fun _ => fun
  | [d1, d2, d3] => { results := [.lit (.bool false)], args := [d1, d2, d3] }
  | _ => none }
def RelayWaitsWrongFalsely : Prop := relayWaitsRow.holds Try.pinned (OpenSpec.ofChange relayWaitsWrong)

/-- 'probitylaw15.RelayMany': WHATEVER THE INPUT: true; the input reads as it did. -/
def relayManySpec : ChangeSpec := { name := "relayMany", fn := fun _ => fun
  | [d1, d2] => { results := [.lit (.bool true)], args := [d1, d2] }
  | _ => none }
def relayManyRow : OpenClaim := { program := "ytbeoihjfjkbfhaa", sum := "2fbb28d59b9138e4a35566b950ef4c7d31fa57ce170cb16e1c5b7f0041e91e62", func := "probity/probitylaw15.RelayMany", spec := "relayMany", inPlace := ["internal/bytealg.Compare", "internal/bytealg.abigen_runtime_cmpstring"], unfollowed := true, recurses := true, plainKeys := false, apart := false }
def RelayManySaid : Prop := relayManyRow.holds Try.pinned (OpenSpec.ofChange relayManySpec)

/-- ITS FALSE NEIGHBOUR: 'it returns false'. Refute it at one input. -/
def relayManyWrong : ChangeSpec := { name := "relayMany", fn := fun _ => fun
  | [d1, d2] => { results := [.lit (.bool false)], args := [d1, d2] }
  | _ => none }
def RelayManyWrongFalsely : Prop := relayManyRow.holds Try.pinned (OpenSpec.ofChange relayManyWrong)

/-- 'probitylaw15.RelayNil': WHATEVER THE INPUT: true; the input reads as it did. -/
def relayNilSpec : ChangeSpec := { name := "relayNil", fn := fun _ => fun
  | [d] => { results := [.lit (.bool true)], args := [d] }
  | _ => none }
def relayNilRow : OpenClaim := { program := "ytbeoihjfjkbfhaa", sum := "2fbb28d59b9138e4a35566b950ef4c7d31fa57ce170cb16e1c5b7f0041e91e62", func := "probity/probitylaw15.RelayNil", spec := "relayNil", inPlace := ["internal/bytealg.Compare", "internal/bytealg.abigen_runtime_cmpstring"], unfollowed := true, recurses := true, plainKeys := false, apart := false }
def RelayNilSaid : Prop := relayNilRow.holds Try.pinned (OpenSpec.ofChange relayNilSpec)

/-- ITS FALSE NEIGHBOUR: 'it returns false'. Refute it at one input. -/
def relayNilWrong : ChangeSpec := { name := "relayNil", fn := fun _ => fun
  | [d] => { results := [.lit (.bool false)], args := [d] }
  | _ => none }
def RelayNilWrongFalsely : Prop := relayNilRow.holds Try.pinned (OpenSpec.ofChange relayNilWrong)

/-- 'probitylaw15.RelayOwn': WHATEVER THE INPUT: true; the input reads as it did. -/
def relayOwnSpec : ChangeSpec := { name := "relayOwn", fn := fun _ => fun
  | [d] => { results := [.lit (.bool true)], args := [d] }
  | _ => none }
def relayOwnRow : OpenClaim := { program := "ytbeoihjfjkbfhaa", sum := "2fbb28d59b9138e4a35566b950ef4c7d31fa57ce170cb16e1c5b7f0041e91e62", func := "probity/probitylaw15.RelayOwn", spec := "relayOwn", inPlace := ["internal/bytealg.Compare", "internal/bytealg.abigen_runtime_cmpstring"], unfollowed := true, recurses := true, plainKeys := false, apart := false }
def RelayOwnSaid : Prop := relayOwnRow.holds Try.pinned (OpenSpec.ofChange relayOwnSpec)

/-- ITS FALSE NEIGHBOUR: 'it returns false'. Refute it at one input. -/
def relayOwnWrong : ChangeSpec := { name := "relayOwn", fn := fun _ => fun
  | [d] => { results := [.lit (.bool false)], args := [d] }
  | _ => none }
def RelayOwnWrongFalsely : Prop := relayOwnRow.holds Try.pinned (OpenSpec.ofChange relayOwnWrong)

/- THE SECOND FORM. 'bulk': how many values and letters a reading holds, each counted each time it is reached (what is shared counts as often as it is met; a slice's spare places count too). A statement '..UptoSaid' is the law's where the arguments, and the package variables that the reading takes, are together of bulk at most 1048576: NARROWER than '..Said'. Prove '..Said' where nothing that the law and all that it calls make is longer than what came in: it says more and counts as full. Else prove '..UptoSaid'. A law counts once. -/
mutual
def uptoBulk {H : Type} : DataW H → Nat
  | .lit (.string bytes) => bytes.length + 1
  | .lit _ => 1
  | .nil => 1
  | .ptr d => uptoBulk d + 1
  | .slice elems spare => uptoBulkAll elems + uptoBulkAll spare + 1
  | .agg parts => uptoBulkAll parts + 1
  | .iface _ d => uptoBulk d + 1
  | .map entries => uptoBulkEntries entries + 1
  | .held _ => 1
def uptoBulkAll {H : Type} : List (DataW H) → Nat
  | [] => 0
  | d :: r => uptoBulk d + uptoBulkAll r
def uptoBulkEntries {H : Type} : List (Lit × DataW H) → Nat
  | [] => 0
  | x :: r => uptoBulkEntry x + uptoBulkEntries r
def uptoBulkEntry {H : Type} : Lit × DataW H → Nat
  | (.string bytes, d) => bytes.length + uptoBulk d + 1
  | (_, d) => uptoBulk d + 1
 end
def uptoSmall : (H : Type) → List (DataW H) → Bool := fun _ ds => decide (uptoBulkAll ds ≤ 1048576)
def OpenSpec.upto (s : _root_.Go.ChangeSpec) : _root_.Go.OpenSpec := { _root_.Go.OpenSpec.ofChange s with cond := some uptoSmall }

/-- 'probitylaw15.RelayPlays', WHERE WHAT IT READS IS OF BULK AT MOST 1048576: true; the input reads as it did. -/
def relayPlaysUptoRow : OpenClaim := { program := "ytbeoihjfjkbfhaa", sum := "2fbb28d59b9138e4a35566b950ef4c7d31fa57ce170cb16e1c5b7f0041e91e62", func := "probity/probitylaw15.RelayPlays", spec := "relayPlays", inPlace := ["internal/bytealg.Compare", "internal/bytealg.abigen_runtime_cmpstring"], unfollowed := true, recurses := true, plainKeys := false, apart := false, narrowed := true }
def RelayPlaysUptoSaid : Prop := relayPlaysUptoRow.holds Try.pinned (OpenSpec.upto relayPlaysSpec)

/-- 'probitylaw15.RelayRaw', WHERE WHAT IT READS IS OF BULK AT MOST 1048576: true; the input reads as it did. -/
def relayRawUptoRow : OpenClaim := { program := "ytbeoihjfjkbfhaa", sum := "2fbb28d59b9138e4a35566b950ef4c7d31fa57ce170cb16e1c5b7f0041e91e62", func := "probity/probitylaw15.RelayRaw", spec := "relayRaw", inPlace := ["internal/bytealg.Compare", "internal/bytealg.abigen_runtime_cmpstring"], unfollowed := true, recurses := true, plainKeys := false, apart := false, narrowed := true }
def RelayRawUptoSaid : Prop := relayRawUptoRow.holds Try.pinned (OpenSpec.upto relayRawSpec)

/-- 'probitylaw15.RelayBlind', WHERE WHAT IT READS IS OF BULK AT MOST 1048576: true; the input reads as it did. -/
def relayBlindUptoRow : OpenClaim := { program := "ytbeoihjfjkbfhaa", sum := "2fbb28d59b9138e4a35566b950ef4c7d31fa57ce170cb16e1c5b7f0041e91e62", func := "probity/probitylaw15.RelayBlind", spec := "relayBlind", inPlace := ["internal/bytealg.Compare", "internal/bytealg.abigen_runtime_cmpstring"], unfollowed := true, recurses := true, plainKeys := false, apart := false, narrowed := true }
def RelayBlindUptoSaid : Prop := relayBlindUptoRow.holds Try.pinned (OpenSpec.upto relayBlindSpec)

/-- 'probitylaw15.RelayOnce', WHERE WHAT IT READS IS OF BULK AT MOST 1048576: true; the input reads as it did. -/
def relayOnceUptoRow : OpenClaim := { program := "ytbeoihjfjkbfhaa", sum := "2fbb28d59b9138e4a35566b950ef4c7d31fa57ce170cb16e1c5b7f0041e91e62", func := "probity/probitylaw15.RelayOnce", spec := "relayOnce", inPlace := ["internal/bytealg.Compare", "internal/bytealg.abigen_runtime_cmpstring"], unfollowed := true, recurses := true, plainKeys := false, apart := false, narrowed := true }
def RelayOnceUptoSaid : Prop := relayOnceUptoRow.holds Try.pinned (OpenSpec.upto relayOnceSpec)

/-- 'probitylaw15.RelayWaits', WHERE WHAT IT READS IS OF BULK AT MOST 1048576: true; the input reads as it did. -/
def relayWaitsUptoRow : OpenClaim := { program := "ytbeoihjfjkbfhaa", sum := "2fbb28d59b9138e4a35566b950ef4c7d31fa57ce170cb16e1c5b7f0041e91e62", func := "probity/probitylaw15.RelayWaits", spec := "relayWaits", inPlace := ["internal/bytealg.Compare", "internal/bytealg.abigen_runtime_cmpstring"], unfollowed := true, recurses := true, plainKeys := false, apart := false, narrowed := true }
def RelayWaitsUptoSaid : Prop := relayWaitsUptoRow.holds Try.pinned (OpenSpec.upto relayWaitsSpec)

/-- 'probitylaw15.RelayMany', WHERE WHAT IT READS IS OF BULK AT MOST 1048576: true; the input reads as it did. -/
def relayManyUptoRow : OpenClaim := { program := "ytbeoihjfjkbfhaa", sum := "2fbb28d59b9138e4a35566b950ef4c7d31fa57ce170cb16e1c5b7f0041e91e62", func := "probity/probitylaw15.RelayMany", spec := "relayMany", inPlace := ["internal/bytealg.Compare", "internal/bytealg.abigen_runtime_cmpstring"], unfollowed := true, recurses := true, plainKeys := false, apart := false, narrowed := true }
def RelayManyUptoSaid : Prop := relayManyUptoRow.holds Try.pinned (OpenSpec.upto relayManySpec)

/-- 'probitylaw15.RelayNil', WHERE WHAT IT READS IS OF BULK AT MOST 1048576: true; the input reads as it did. -/
def relayNilUptoRow : OpenClaim := { program := "ytbeoihjfjkbfhaa", sum := "2fbb28d59b9138e4a35566b950ef4c7d31fa57ce170cb16e1c5b7f0041e91e62", func := "probity/probitylaw15.RelayNil", spec := "relayNil", inPlace := ["internal/bytealg.Compare", "internal/bytealg.abigen_runtime_cmpstring"], unfollowed := true, recurses := true, plainKeys := false, apart := false, narrowed := true }
def RelayNilUptoSaid : Prop := relayNilUptoRow.holds Try.pinned (OpenSpec.upto relayNilSpec)

/-- 'probitylaw15.RelayOwn', WHERE WHAT IT READS IS OF BULK AT MOST 1048576: true; the input reads as it did. -/
def relayOwnUptoRow : OpenClaim := { program := "ytbeoihjfjkbfhaa", sum := "2fbb28d59b9138e4a35566b950ef4c7d31fa57ce170cb16e1c5b7f0041e91e62", func := "probity/probitylaw15.RelayOwn", spec := "relayOwn", inPlace := ["internal/bytealg.Compare", "internal/bytealg.abigen_runtime_cmpstring"], unfollowed := true, recurses := true, plainKeys := false, apart := false, narrowed := true }
def RelayOwnUptoSaid : Prop := relayOwnUptoRow.holds Try.pinned (OpenSpec.upto relayOwnSpec)

end Rows
end Go.Proofs.Ytbeoihjfjkbfhaa
