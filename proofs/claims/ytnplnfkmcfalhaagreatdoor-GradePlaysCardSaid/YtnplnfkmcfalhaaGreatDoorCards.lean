/-
  DERIVED. GIVEN WITH THE SEED: THE CARDS: each row of YtnplnfkmcfalhaaGreatDoorRows.lean that lists a variable, with what it lists TIED to the program's text (the seventh form; the later family's looks); each row that meets fmt, with fmt's text TOLD by the authors' own Lean function (tested against real Go, not proved from fmt's source: count such statements apart). THE CARD IS WHAT COUNTS. Prove the row's statement (the work); the ties are given (YtnplnfkmcfalhaaGreatDoorTie.lean); close each card by the builder's one call (the guide's Derived/Test/ToyasCard.lean, 'card_holds'). Laid BY PROGRAM, IN A SANDBOX (cutbox-door.mjs). By AI agents, Wed Nov 11 2026. No macro, syntax, notation, axiom, sorry.
-/
import Derived.Test.YtnplnfkmcfalhaaGreatDoorRows
import GoSem.ClaimSeven
namespace Go.Proofs.YtnplnfkmcfalhaaGreatDoor
namespace Rows

/-- THE TIED CARD OF 'probitylaw19.GradeNil'. -/
def gradeNilCard : Claim7 := { stood := { row := gradeNilRow, standIns := [], harness := (true, "7c0632bc95d12b9fa83733d2f0522856c6c56a3bec88af274ff08399944aa7a0"), looks := false }, kinds := [], alts := [], laidByText := true, laidKinds := [.data, .data, .data], laidTests := true, laidLooks := .later }
def GradeNilCardSaid : Prop := Claim7.holds Tryz.pinned (.plain (OpenSpec.ofChange gradeNilSpec)) gradeNilCard

/-- THE TIED CARD OF 'probitylaw19.GradeKeeps'. -/
def gradeKeepsCard : Claim7 := { stood := { row := gradeKeepsRow, standIns := [], harness := (true, "7c0632bc95d12b9fa83733d2f0522856c6c56a3bec88af274ff08399944aa7a0"), looks := false }, kinds := [], alts := [], laidByText := true, laidKinds := [.data, .data, .data], laidTests := true, laidLooks := .later }
def GradeKeepsCardSaid : Prop := Claim7.holds Tryz.pinned (.plain (OpenSpec.ofChange gradeKeepsSpec)) gradeKeepsCard

/-- THE TIED CARD OF 'probitylaw19.GradePlays'. -/
def gradePlaysCard : Claim7 := { stood := { row := gradePlaysRow, standIns := [], harness := (true, "7c0632bc95d12b9fa83733d2f0522856c6c56a3bec88af274ff08399944aa7a0"), looks := false }, kinds := [], alts := [], laidByText := true, laidKinds := [.data, .data, .data], laidTests := true, laidLooks := .later }
def GradePlaysCardSaid : Prop := Claim7.holds Tryz.pinned (.plain (OpenSpec.ofChange gradePlaysSpec)) gradePlaysCard

/-- THE TIED CARD OF 'probitylaw19.GradeWhole'. -/
def gradeWholeCard : Claim7 := { stood := { row := gradeWholeRow, standIns := [], harness := (true, "7c0632bc95d12b9fa83733d2f0522856c6c56a3bec88af274ff08399944aa7a0"), looks := false }, kinds := [], alts := [], laidByText := true, laidKinds := [.data, .data, .data], laidTests := true, laidLooks := .later }
def GradeWholeCardSaid : Prop := Claim7.holds Tryz.pinned (.plain (OpenSpec.ofChange gradeWholeSpec)) gradeWholeCard

/-- THE TIED CARD OF 'probitylaw19.GradeOrder'. -/
def gradeOrderCard : Claim7 := { stood := { row := gradeOrderRow, standIns := [], harness := (true, "7c0632bc95d12b9fa83733d2f0522856c6c56a3bec88af274ff08399944aa7a0"), looks := false }, kinds := [], alts := [], laidByText := true, laidKinds := [.data, .data, .data], laidTests := true, laidLooks := .later }
def GradeOrderCardSaid : Prop := Claim7.holds Tryz.pinned (.plain (OpenSpec.ofChange gradeOrderSpec)) gradeOrderCard

/-- THE SECOND FORM's CARD OF 'probitylaw19.GradeNil'. -/
def gradeNilUptoCard : Claim7 := { stood := { row := gradeNilUptoRow, standIns := [], harness := (true, "7c0632bc95d12b9fa83733d2f0522856c6c56a3bec88af274ff08399944aa7a0"), looks := false }, kinds := [], alts := [], laidByText := true, laidKinds := [.data, .data, .data], laidTests := true, laidLooks := .later }
def GradeNilUptoCardSaid : Prop := Claim7.holds Tryz.pinned (.plain (OpenSpec.upto gradeNilSpec)) gradeNilUptoCard

/-- THE SECOND FORM's CARD OF 'probitylaw19.GradeKeeps'. -/
def gradeKeepsUptoCard : Claim7 := { stood := { row := gradeKeepsUptoRow, standIns := [], harness := (true, "7c0632bc95d12b9fa83733d2f0522856c6c56a3bec88af274ff08399944aa7a0"), looks := false }, kinds := [], alts := [], laidByText := true, laidKinds := [.data, .data, .data], laidTests := true, laidLooks := .later }
def GradeKeepsUptoCardSaid : Prop := Claim7.holds Tryz.pinned (.plain (OpenSpec.upto gradeKeepsSpec)) gradeKeepsUptoCard

/-- THE SECOND FORM's CARD OF 'probitylaw19.GradePlays'. -/
def gradePlaysUptoCard : Claim7 := { stood := { row := gradePlaysUptoRow, standIns := [], harness := (true, "7c0632bc95d12b9fa83733d2f0522856c6c56a3bec88af274ff08399944aa7a0"), looks := false }, kinds := [], alts := [], laidByText := true, laidKinds := [.data, .data, .data], laidTests := true, laidLooks := .later }
def GradePlaysUptoCardSaid : Prop := Claim7.holds Tryz.pinned (.plain (OpenSpec.upto gradePlaysSpec)) gradePlaysUptoCard

/-- THE SECOND FORM's CARD OF 'probitylaw19.GradeWhole'. -/
def gradeWholeUptoCard : Claim7 := { stood := { row := gradeWholeUptoRow, standIns := [], harness := (true, "7c0632bc95d12b9fa83733d2f0522856c6c56a3bec88af274ff08399944aa7a0"), looks := false }, kinds := [], alts := [], laidByText := true, laidKinds := [.data, .data, .data], laidTests := true, laidLooks := .later }
def GradeWholeUptoCardSaid : Prop := Claim7.holds Tryz.pinned (.plain (OpenSpec.upto gradeWholeSpec)) gradeWholeUptoCard

/-- THE SECOND FORM's CARD OF 'probitylaw19.GradeOrder'. -/
def gradeOrderUptoCard : Claim7 := { stood := { row := gradeOrderUptoRow, standIns := [], harness := (true, "7c0632bc95d12b9fa83733d2f0522856c6c56a3bec88af274ff08399944aa7a0"), looks := false }, kinds := [], alts := [], laidByText := true, laidKinds := [.data, .data, .data], laidTests := true, laidLooks := .later }
def GradeOrderUptoCardSaid : Prop := Claim7.holds Tryz.pinned (.plain (OpenSpec.upto gradeOrderSpec)) gradeOrderUptoCard
end Rows
end Go.Proofs.YtnplnfkmcfalhaaGreatDoor
