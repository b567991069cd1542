/-
  DERIVED. GIVEN WITH THE SEED: THE CARDS: each row of YtdmgimfgoajmjaaGreatDoorRows.lean that lists a variable, with what it lists TIED to the program's text (the seventh form; the later family's looks); each row that meets fmt, with fmt's text TOLD by the authors' own Lean function (tested against real Go, not proved from fmt's source: count such statements apart). THE CARD IS WHAT COUNTS. Prove the row's statement (the work); the ties are given (YtdmgimfgoajmjaaGreatDoorTie.lean); close each card by the builder's one call (the guide's Derived/Test/ToyasCard.lean, 'card_holds'). Laid BY PROGRAM, IN A SANDBOX (cutbox-door.mjs). By AI agents, Wed Nov 11 2026. No macro, syntax, notation, axiom, sorry.
-/
import Derived.Test.YtdmgimfgoajmjaaGreatDoorRows
import GoSem.ClaimSeven
namespace Go.Proofs.YtdmgimfgoajmjaaGreatDoor
namespace Rows

/-- THE TIED CARD OF 'zugzwanglaw12.AgainTells'. -/
def againTellsCard : Claim7 := { stood := { row := againTellsRow, standIns := [], harness := (true, "928772ad0442a12477e6a30ba70dcb2daf20193fcb3d9cabae5a5ad441c4b263"), looks := true }, kinds := [], alts := [], laidByText := true, laidKinds := [.data, .data, .data], laidTests := true, laidLooks := .later }
def AgainTellsCardSaid : Prop := Claim7.holds Tryz.pinned (.plain (OpenSpec.ofChange againTellsSpec)) againTellsCard

/-- THE TIED CARD OF 'zugzwanglaw12.AgainEnds'. -/
def againEndsCard : Claim7 := { stood := { row := againEndsRow, standIns := [], harness := (true, "928772ad0442a12477e6a30ba70dcb2daf20193fcb3d9cabae5a5ad441c4b263"), looks := true }, kinds := [], alts := [], laidByText := true, laidKinds := [.data, .data, .data], laidTests := true, laidLooks := .later }
def AgainEndsCardSaid : Prop := Claim7.holds Tryz.pinned (.plain (OpenSpec.ofChange againEndsSpec)) againEndsCard

/-- THE TIED CARD OF 'zugzwanglaw12.AgainNever'. -/
def againNeverCard : Claim7 := { stood := { row := againNeverRow, standIns := [], harness := (true, "928772ad0442a12477e6a30ba70dcb2daf20193fcb3d9cabae5a5ad441c4b263"), looks := true }, kinds := [], alts := [], laidByText := true, laidKinds := [.data, .data, .data], laidTests := true, laidLooks := .later }
def AgainNeverCardSaid : Prop := Claim7.holds Tryz.pinned (.plain (OpenSpec.ofChange againNeverSpec)) againNeverCard

/-- THE TIED CARD OF 'zugzwanglaw31.JudgeMusts'. -/
def judgeMustsCard : Claim7 := { stood := { row := judgeMustsRow, standIns := [], harness := (true, "928772ad0442a12477e6a30ba70dcb2daf20193fcb3d9cabae5a5ad441c4b263"), looks := true }, kinds := [], alts := [], laidByText := true, laidKinds := [.data, .data, .data], laidTests := true, laidLooks := .later }
def JudgeMustsCardSaid : Prop := Claim7.holds Tryz.pinned (.plain (OpenSpec.ofChange judgeMustsSpec)) judgeMustsCard

/-- THE TIED CARD OF 'zugzwanglaw14.GameRows'. -/
def gameRowsCard : Claim7 := { stood := { row := gameRowsRow, standIns := [], harness := (true, "928772ad0442a12477e6a30ba70dcb2daf20193fcb3d9cabae5a5ad441c4b263"), looks := true }, kinds := [], alts := [], laidByText := true, laidKinds := [.data, .data, .data], laidTests := true, laidLooks := .later }
def GameRowsCardSaid : Prop := Claim7.holds Tryz.pinned (.plain (OpenSpec.ofChange gameRowsSpec)) gameRowsCard

/-- THE TIED CARD OF 'zugzwanglaw14.GameRuns'. -/
def gameRunsCard : Claim7 := { stood := { row := gameRunsRow, standIns := [], harness := (true, "928772ad0442a12477e6a30ba70dcb2daf20193fcb3d9cabae5a5ad441c4b263"), looks := true }, kinds := [], alts := [], laidByText := true, laidKinds := [.data, .data, .data], laidTests := true, laidLooks := .later }
def GameRunsCardSaid : Prop := Claim7.holds Tryz.pinned (.plain (OpenSpec.ofChange gameRunsSpec)) gameRunsCard

/-- THE TIED CARD OF 'zugzwanglaw14.GameTells'. -/
def gameTellsCard : Claim7 := { stood := { row := gameTellsRow, standIns := [], harness := (true, "928772ad0442a12477e6a30ba70dcb2daf20193fcb3d9cabae5a5ad441c4b263"), looks := true }, kinds := [], alts := [], laidByText := true, laidKinds := [.data, .data, .data], laidTests := true, laidLooks := .later }
def GameTellsCardSaid : Prop := Claim7.holds Tryz.pinned (.plain (OpenSpec.ofChange gameTellsSpec)) gameTellsCard

/-- THE TIED CARD OF 'zugzwanglaw14.GameEnds'. -/
def gameEndsCard : Claim7 := { stood := { row := gameEndsRow, standIns := [], harness := (true, "928772ad0442a12477e6a30ba70dcb2daf20193fcb3d9cabae5a5ad441c4b263"), looks := true }, kinds := [], alts := [], laidByText := true, laidKinds := [.data, .data, .data], laidTests := true, laidLooks := .later }
def GameEndsCardSaid : Prop := Claim7.holds Tryz.pinned (.plain (OpenSpec.ofChange gameEndsSpec)) gameEndsCard

/-- THE TIED CARD OF 'zugzwanglaw14.GameStops'. -/
def gameStopsCard : Claim7 := { stood := { row := gameStopsRow, standIns := [], harness := (true, "928772ad0442a12477e6a30ba70dcb2daf20193fcb3d9cabae5a5ad441c4b263"), looks := true }, kinds := [], alts := [], laidByText := true, laidKinds := [.data, .data, .data], laidTests := true, laidLooks := .later }
def GameStopsCardSaid : Prop := Claim7.holds Tryz.pinned (.plain (OpenSpec.ofChange gameStopsSpec)) gameStopsCard

/-- THE SECOND FORM's CARD OF 'zugzwanglaw12.AgainTells'. -/
def againTellsUptoCard : Claim7 := { stood := { row := againTellsUptoRow, standIns := [], harness := (true, "928772ad0442a12477e6a30ba70dcb2daf20193fcb3d9cabae5a5ad441c4b263"), looks := true }, kinds := [], alts := [], laidByText := true, laidKinds := [.data, .data, .data], laidTests := true, laidLooks := .later }
def AgainTellsUptoCardSaid : Prop := Claim7.holds Tryz.pinned (.plain (OpenSpec.upto againTellsSpec)) againTellsUptoCard

/-- THE SECOND FORM's CARD OF 'zugzwanglaw12.AgainEnds'. -/
def againEndsUptoCard : Claim7 := { stood := { row := againEndsUptoRow, standIns := [], harness := (true, "928772ad0442a12477e6a30ba70dcb2daf20193fcb3d9cabae5a5ad441c4b263"), looks := true }, kinds := [], alts := [], laidByText := true, laidKinds := [.data, .data, .data], laidTests := true, laidLooks := .later }
def AgainEndsUptoCardSaid : Prop := Claim7.holds Tryz.pinned (.plain (OpenSpec.upto againEndsSpec)) againEndsUptoCard

/-- THE SECOND FORM's CARD OF 'zugzwanglaw12.AgainNever'. -/
def againNeverUptoCard : Claim7 := { stood := { row := againNeverUptoRow, standIns := [], harness := (true, "928772ad0442a12477e6a30ba70dcb2daf20193fcb3d9cabae5a5ad441c4b263"), looks := true }, kinds := [], alts := [], laidByText := true, laidKinds := [.data, .data, .data], laidTests := true, laidLooks := .later }
def AgainNeverUptoCardSaid : Prop := Claim7.holds Tryz.pinned (.plain (OpenSpec.upto againNeverSpec)) againNeverUptoCard

/-- THE SECOND FORM's CARD OF 'zugzwanglaw31.JudgeMusts'. -/
def judgeMustsUptoCard : Claim7 := { stood := { row := judgeMustsUptoRow, standIns := [], harness := (true, "928772ad0442a12477e6a30ba70dcb2daf20193fcb3d9cabae5a5ad441c4b263"), looks := true }, kinds := [], alts := [], laidByText := true, laidKinds := [.data, .data, .data], laidTests := true, laidLooks := .later }
def JudgeMustsUptoCardSaid : Prop := Claim7.holds Tryz.pinned (.plain (OpenSpec.upto judgeMustsSpec)) judgeMustsUptoCard

/-- THE SECOND FORM's CARD OF 'zugzwanglaw14.GameRows'. -/
def gameRowsUptoCard : Claim7 := { stood := { row := gameRowsUptoRow, standIns := [], harness := (true, "928772ad0442a12477e6a30ba70dcb2daf20193fcb3d9cabae5a5ad441c4b263"), looks := true }, kinds := [], alts := [], laidByText := true, laidKinds := [.data, .data, .data], laidTests := true, laidLooks := .later }
def GameRowsUptoCardSaid : Prop := Claim7.holds Tryz.pinned (.plain (OpenSpec.upto gameRowsSpec)) gameRowsUptoCard

/-- THE SECOND FORM's CARD OF 'zugzwanglaw14.GameRuns'. -/
def gameRunsUptoCard : Claim7 := { stood := { row := gameRunsUptoRow, standIns := [], harness := (true, "928772ad0442a12477e6a30ba70dcb2daf20193fcb3d9cabae5a5ad441c4b263"), looks := true }, kinds := [], alts := [], laidByText := true, laidKinds := [.data, .data, .data], laidTests := true, laidLooks := .later }
def GameRunsUptoCardSaid : Prop := Claim7.holds Tryz.pinned (.plain (OpenSpec.upto gameRunsSpec)) gameRunsUptoCard

/-- THE SECOND FORM's CARD OF 'zugzwanglaw14.GameTells'. -/
def gameTellsUptoCard : Claim7 := { stood := { row := gameTellsUptoRow, standIns := [], harness := (true, "928772ad0442a12477e6a30ba70dcb2daf20193fcb3d9cabae5a5ad441c4b263"), looks := true }, kinds := [], alts := [], laidByText := true, laidKinds := [.data, .data, .data], laidTests := true, laidLooks := .later }
def GameTellsUptoCardSaid : Prop := Claim7.holds Tryz.pinned (.plain (OpenSpec.upto gameTellsSpec)) gameTellsUptoCard

/-- THE SECOND FORM's CARD OF 'zugzwanglaw14.GameEnds'. -/
def gameEndsUptoCard : Claim7 := { stood := { row := gameEndsUptoRow, standIns := [], harness := (true, "928772ad0442a12477e6a30ba70dcb2daf20193fcb3d9cabae5a5ad441c4b263"), looks := true }, kinds := [], alts := [], laidByText := true, laidKinds := [.data, .data, .data], laidTests := true, laidLooks := .later }
def GameEndsUptoCardSaid : Prop := Claim7.holds Tryz.pinned (.plain (OpenSpec.upto gameEndsSpec)) gameEndsUptoCard

/-- THE SECOND FORM's CARD OF 'zugzwanglaw14.GameStops'. -/
def gameStopsUptoCard : Claim7 := { stood := { row := gameStopsUptoRow, standIns := [], harness := (true, "928772ad0442a12477e6a30ba70dcb2daf20193fcb3d9cabae5a5ad441c4b263"), looks := true }, kinds := [], alts := [], laidByText := true, laidKinds := [.data, .data, .data], laidTests := true, laidLooks := .later }
def GameStopsUptoCardSaid : Prop := Claim7.holds Tryz.pinned (.plain (OpenSpec.upto gameStopsSpec)) gameStopsUptoCard
end Rows
end Go.Proofs.YtdmgimfgoajmjaaGreatDoor
