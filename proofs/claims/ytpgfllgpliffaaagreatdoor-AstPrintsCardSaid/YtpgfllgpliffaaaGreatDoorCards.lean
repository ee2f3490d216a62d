/-
  DERIVED. GIVEN WITH THE SEED: THE CARDS: each row of YtpgfllgpliffaaaGreatDoorRows.lean that lists a variable, with what it lists TIED to the program's text (the seventh form; the later family's looks); each row that meets fmt, with fmt's text TOLD by the authors' own Lean function (tested against real Go, not proved from fmt's source: count such statements apart). THE CARD IS WHAT COUNTS. Prove the row's statement (the work); the ties are given (YtpgfllgpliffaaaGreatDoorTie.lean); close each card by the builder's one call (the guide's Derived/Test/ToyasCard.lean, 'card_holds'). Laid BY PROGRAM, IN A SANDBOX (cutbox-door.mjs). By AI agents, Wed Nov 11 2026. No macro, syntax, notation, axiom, sorry.
-/
import Derived.Test.YtpgfllgpliffaaaGreatDoorRows
import GoSem.ClaimSeven
namespace Go.Proofs.YtpgfllgpliffaaaGreatDoor
namespace Rows

/-- THE TIED CARD OF 'leavenlaw05.AstMay'. -/
def astMayCard : Claim7 := { stood := { row := astMayRow, standIns := [], harness := (true, "144d45627e679d93d12a5e96c8f15349f51c7198a3f28afb53a639266f5a5c59"), looks := false }, kinds := [], alts := [], laidByText := true, laidKinds := [.data, .data, .data, .data, .pinned], laidTests := true, laidLooks := .later }
def AstMayCardSaid : Prop := Claim7.holds Tryz.pinned (.plain (OpenSpec.ofChange astMaySpec)) astMayCard

/-- THE TIED CARD OF 'leavenlaw05.AstTells'. -/
def astTellsCard : Claim7 := { stood := { row := astTellsRow, standIns := [], harness := (true, "144d45627e679d93d12a5e96c8f15349f51c7198a3f28afb53a639266f5a5c59"), looks := false }, kinds := [], alts := [], laidByText := true, laidKinds := [.data, .data, .data, .data, .pinned], laidTests := true, laidLooks := .later }
def AstTellsCardSaid : Prop := Claim7.holds Tryz.pinned (.plain (OpenSpec.ofChange astTellsSpec)) astTellsCard

/-- THE TIED CARD OF 'leavenlaw05.AstPrints'. -/
def astPrintsCard : Claim7 := { stood := { row := astPrintsRow, standIns := [], harness := (true, "144d45627e679d93d12a5e96c8f15349f51c7198a3f28afb53a639266f5a5c59"), looks := false }, kinds := [], alts := [], laidByText := true, laidKinds := [.data, .data, .data, .data, .pinned], laidTests := true, laidLooks := .later }
def AstPrintsCardSaid : Prop := Claim7.holds Tryz.pinned (.plain (OpenSpec.ofChange astPrintsSpec)) astPrintsCard

/-- THE TIED CARD OF 'leavenlaw05.AstFree'. -/
def astFreeCard : Claim7 := { stood := { row := astFreeRow, standIns := [], harness := (true, "144d45627e679d93d12a5e96c8f15349f51c7198a3f28afb53a639266f5a5c59"), looks := false }, kinds := [], alts := [], laidByText := true, laidKinds := [.data, .data, .data, .data, .pinned], laidTests := true, laidLooks := .later }
def AstFreeCardSaid : Prop := Claim7.holds Tryz.pinned (.plain (OpenSpec.ofChange astFreeSpec)) astFreeCard

/-- THE TIED CARD OF 'leavenlaw05.AstParts'. -/
def astPartsCard : Claim7 := { stood := { row := astPartsRow, standIns := [], harness := (true, "144d45627e679d93d12a5e96c8f15349f51c7198a3f28afb53a639266f5a5c59"), looks := false }, kinds := [], alts := [], laidByText := true, laidKinds := [.data, .data, .data, .data, .pinned], laidTests := true, laidLooks := .later }
def AstPartsCardSaid : Prop := Claim7.holds Tryz.pinned (.plain (OpenSpec.ofChange astPartsSpec)) astPartsCard

/-- THE TIED CARD OF 'leavenlaw05.AstBound'. -/
def astBoundCard : Claim7 := { stood := { row := astBoundRow, standIns := [], harness := (true, "144d45627e679d93d12a5e96c8f15349f51c7198a3f28afb53a639266f5a5c59"), looks := false }, kinds := [], alts := [], laidByText := true, laidKinds := [.data, .data, .data, .data, .pinned], laidTests := true, laidLooks := .later }
def AstBoundCardSaid : Prop := Claim7.holds Tryz.pinned (.plain (OpenSpec.ofChange astBoundSpec)) astBoundCard

/-- THE TIED CARD OF 'leavenlaw05.AstNames'. -/
def astNamesCard : Claim7 := { stood := { row := astNamesRow, standIns := [], harness := (true, "144d45627e679d93d12a5e96c8f15349f51c7198a3f28afb53a639266f5a5c59"), looks := false }, kinds := [], alts := [], laidByText := true, laidKinds := [.data, .data, .data, .data, .pinned], laidTests := true, laidLooks := .later }
def AstNamesCardSaid : Prop := Claim7.holds Tryz.pinned (.plain (OpenSpec.ofChange astNamesSpec)) astNamesCard

/-- THE SECOND FORM's CARD OF 'leavenlaw05.AstMay'. -/
def astMayUptoCard : Claim7 := { stood := { row := astMayUptoRow, standIns := [], harness := (true, "144d45627e679d93d12a5e96c8f15349f51c7198a3f28afb53a639266f5a5c59"), looks := false }, kinds := [], alts := [], laidByText := true, laidKinds := [.data, .data, .data, .data, .pinned], laidTests := true, laidLooks := .later }
def AstMayUptoCardSaid : Prop := Claim7.holds Tryz.pinned (.plain (OpenSpec.upto astMaySpec)) astMayUptoCard

/-- THE SECOND FORM's CARD OF 'leavenlaw05.AstTells'. -/
def astTellsUptoCard : Claim7 := { stood := { row := astTellsUptoRow, standIns := [], harness := (true, "144d45627e679d93d12a5e96c8f15349f51c7198a3f28afb53a639266f5a5c59"), looks := false }, kinds := [], alts := [], laidByText := true, laidKinds := [.data, .data, .data, .data, .pinned], laidTests := true, laidLooks := .later }
def AstTellsUptoCardSaid : Prop := Claim7.holds Tryz.pinned (.plain (OpenSpec.upto astTellsSpec)) astTellsUptoCard

/-- THE SECOND FORM's CARD OF 'leavenlaw05.AstPrints'. -/
def astPrintsUptoCard : Claim7 := { stood := { row := astPrintsUptoRow, standIns := [], harness := (true, "144d45627e679d93d12a5e96c8f15349f51c7198a3f28afb53a639266f5a5c59"), looks := false }, kinds := [], alts := [], laidByText := true, laidKinds := [.data, .data, .data, .data, .pinned], laidTests := true, laidLooks := .later }
def AstPrintsUptoCardSaid : Prop := Claim7.holds Tryz.pinned (.plain (OpenSpec.upto astPrintsSpec)) astPrintsUptoCard

/-- THE SECOND FORM's CARD OF 'leavenlaw05.AstFree'. -/
def astFreeUptoCard : Claim7 := { stood := { row := astFreeUptoRow, standIns := [], harness := (true, "144d45627e679d93d12a5e96c8f15349f51c7198a3f28afb53a639266f5a5c59"), looks := false }, kinds := [], alts := [], laidByText := true, laidKinds := [.data, .data, .data, .data, .pinned], laidTests := true, laidLooks := .later }
def AstFreeUptoCardSaid : Prop := Claim7.holds Tryz.pinned (.plain (OpenSpec.upto astFreeSpec)) astFreeUptoCard

/-- THE SECOND FORM's CARD OF 'leavenlaw05.AstParts'. -/
def astPartsUptoCard : Claim7 := { stood := { row := astPartsUptoRow, standIns := [], harness := (true, "144d45627e679d93d12a5e96c8f15349f51c7198a3f28afb53a639266f5a5c59"), looks := false }, kinds := [], alts := [], laidByText := true, laidKinds := [.data, .data, .data, .data, .pinned], laidTests := true, laidLooks := .later }
def AstPartsUptoCardSaid : Prop := Claim7.holds Tryz.pinned (.plain (OpenSpec.upto astPartsSpec)) astPartsUptoCard

/-- THE SECOND FORM's CARD OF 'leavenlaw05.AstBound'. -/
def astBoundUptoCard : Claim7 := { stood := { row := astBoundUptoRow, standIns := [], harness := (true, "144d45627e679d93d12a5e96c8f15349f51c7198a3f28afb53a639266f5a5c59"), looks := false }, kinds := [], alts := [], laidByText := true, laidKinds := [.data, .data, .data, .data, .pinned], laidTests := true, laidLooks := .later }
def AstBoundUptoCardSaid : Prop := Claim7.holds Tryz.pinned (.plain (OpenSpec.upto astBoundSpec)) astBoundUptoCard

/-- THE SECOND FORM's CARD OF 'leavenlaw05.AstNames'. -/
def astNamesUptoCard : Claim7 := { stood := { row := astNamesUptoRow, standIns := [], harness := (true, "144d45627e679d93d12a5e96c8f15349f51c7198a3f28afb53a639266f5a5c59"), looks := false }, kinds := [], alts := [], laidByText := true, laidKinds := [.data, .data, .data, .data, .pinned], laidTests := true, laidLooks := .later }
def AstNamesUptoCardSaid : Prop := Claim7.holds Tryz.pinned (.plain (OpenSpec.upto astNamesSpec)) astNamesUptoCard
end Rows
end Go.Proofs.YtpgfllgpliffaaaGreatDoor
