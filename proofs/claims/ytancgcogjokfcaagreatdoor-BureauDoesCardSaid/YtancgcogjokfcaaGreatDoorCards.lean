/-
  DERIVED. GIVEN WITH THE SEED: THE CARDS: each row of YtancgcogjokfcaaGreatDoorRows.lean that lists a variable, with what it lists TIED to the program's text (the seventh form; the later family's looks); each row that meets fmt, with fmt's text TOLD by the authors' own Lean function (tested against real Go, not proved from fmt's source: count such statements apart). THE CARD IS WHAT COUNTS. Prove the row's statement (the work); the ties are given (YtancgcogjokfcaaGreatDoorTie.lean); close each card by the builder's one call (the guide's Derived/Test/ToyasCard.lean, 'card_holds'). Laid BY PROGRAM, IN A SANDBOX (cutbox-door.mjs). By AI agents, Wed Nov 11 2026. No macro, syntax, notation, axiom, sorry.
-/
import Derived.Test.YtancgcogjokfcaaGreatDoorRows
import GoSem.ClaimSeven
namespace Go.Proofs.YtancgcogjokfcaaGreatDoor
namespace Rows

/-- THE TIED CARD OF 'letterbaglaw43.BureauSums'. -/
def bureauSumsCard : Claim7 := { stood := { row := bureauSumsRow, standIns := [], harness := (true, "f68b62229a9602ece8cf594289ede6e5acddaa295c34b5ab9f443657b56386d4"), looks := true }, kinds := [], alts := [], laidByText := true, laidKinds := [.data, .data, .data, .sentinel, .sentinel], laidTests := true, laidLooks := .later }
def BureauSumsCardSaid : Prop := Claim7.holds Tryz.pinned (.plain (OpenSpec.ofChange bureauSumsSpec)) bureauSumsCard

/-- THE TIED CARD OF 'letterbaglaw43.BureauSmall'. -/
def bureauSmallCard : Claim7 := { stood := { row := bureauSmallRow, standIns := [], harness := (true, "f68b62229a9602ece8cf594289ede6e5acddaa295c34b5ab9f443657b56386d4"), looks := true }, kinds := [], alts := [], laidByText := true, laidKinds := [.data, .data, .data, .sentinel, .sentinel], laidTests := true, laidLooks := .later }
def BureauSmallCardSaid : Prop := Claim7.holds Tryz.pinned (.plain (OpenSpec.ofChange bureauSmallSpec)) bureauSmallCard

/-- THE TIED CARD OF 'letterbaglaw43.BureauKeeps'. -/
def bureauKeepsCard : Claim7 := { stood := { row := bureauKeepsRow, standIns := [], harness := (true, "f68b62229a9602ece8cf594289ede6e5acddaa295c34b5ab9f443657b56386d4"), looks := true }, kinds := [], alts := [], laidByText := true, laidKinds := [.data, .data, .data, .sentinel, .sentinel], laidTests := true, laidLooks := .later }
def BureauKeepsCardSaid : Prop := Claim7.holds Tryz.pinned (.plain (OpenSpec.ofChange bureauKeepsSpec)) bureauKeepsCard

/-- THE TIED CARD OF 'letterbaglaw43.BureauFails'. -/
def bureauFailsCard : Claim7 := { stood := { row := bureauFailsRow, standIns := [], harness := (true, "f68b62229a9602ece8cf594289ede6e5acddaa295c34b5ab9f443657b56386d4"), looks := true }, kinds := [], alts := [], laidByText := true, laidKinds := [.data, .data, .data, .sentinel, .sentinel], laidTests := true, laidLooks := .later }
def BureauFailsCardSaid : Prop := Claim7.holds Tryz.pinned (.plain (OpenSpec.ofChange bureauFailsSpec)) bureauFailsCard

/-- THE TIED CARD OF 'letterbaglaw43.BureauDoes'. -/
def bureauDoesCard : Claim7 := { stood := { row := bureauDoesRow, standIns := [], harness := (true, "f68b62229a9602ece8cf594289ede6e5acddaa295c34b5ab9f443657b56386d4"), looks := true }, kinds := [], alts := [], laidByText := true, laidKinds := [.data, .data, .data, .sentinel, .sentinel], laidTests := true, laidLooks := .later }
def BureauDoesCardSaid : Prop := Claim7.holds Tryz.pinned (.plain (OpenSpec.ofChange bureauDoesSpec)) bureauDoesCard

/-- THE TIED CARD OF 'letterbaglaw43.BureauOpens'. -/
def bureauOpensCard : Claim7 := { stood := { row := bureauOpensRow, standIns := [], harness := (true, "f68b62229a9602ece8cf594289ede6e5acddaa295c34b5ab9f443657b56386d4"), looks := true }, kinds := [], alts := [], laidByText := true, laidKinds := [.data, .data, .data, .sentinel, .sentinel], laidTests := true, laidLooks := .later }
def BureauOpensCardSaid : Prop := Claim7.holds Tryz.pinned (.plain (OpenSpec.ofChange bureauOpensSpec)) bureauOpensCard

/-- THE TIED CARD OF 'letterbaglaw43.BureauSame'. -/
def bureauSameCard : Claim7 := { stood := { row := bureauSameRow, standIns := [], harness := (true, "f68b62229a9602ece8cf594289ede6e5acddaa295c34b5ab9f443657b56386d4"), looks := true }, kinds := [], alts := [], laidByText := true, laidKinds := [.data, .data, .data, .sentinel, .sentinel], laidTests := true, laidLooks := .later }
def BureauSameCardSaid : Prop := Claim7.holds Tryz.pinned (.plain (OpenSpec.ofChange bureauSameSpec)) bureauSameCard

/-- THE TIED CARD OF 'letterbaglaw43.BureauSees'. -/
def bureauSeesCard : Claim7 := { stood := { row := bureauSeesRow, standIns := [], harness := (true, "f68b62229a9602ece8cf594289ede6e5acddaa295c34b5ab9f443657b56386d4"), looks := true }, kinds := [], alts := [], laidByText := true, laidKinds := [.data, .data, .data, .sentinel, .sentinel], laidTests := true, laidLooks := .later }
def BureauSeesCardSaid : Prop := Claim7.holds Tryz.pinned (.plain (OpenSpec.ofChange bureauSeesSpec)) bureauSeesCard

/-- THE SECOND FORM's CARD OF 'letterbaglaw43.BureauSums'. -/
def bureauSumsUptoCard : Claim7 := { stood := { row := bureauSumsUptoRow, standIns := [], harness := (true, "f68b62229a9602ece8cf594289ede6e5acddaa295c34b5ab9f443657b56386d4"), looks := true }, kinds := [], alts := [], laidByText := true, laidKinds := [.data, .data, .data, .sentinel, .sentinel], laidTests := true, laidLooks := .later }
def BureauSumsUptoCardSaid : Prop := Claim7.holds Tryz.pinned (.plain (OpenSpec.upto bureauSumsSpec)) bureauSumsUptoCard

/-- THE SECOND FORM's CARD OF 'letterbaglaw43.BureauSmall'. -/
def bureauSmallUptoCard : Claim7 := { stood := { row := bureauSmallUptoRow, standIns := [], harness := (true, "f68b62229a9602ece8cf594289ede6e5acddaa295c34b5ab9f443657b56386d4"), looks := true }, kinds := [], alts := [], laidByText := true, laidKinds := [.data, .data, .data, .sentinel, .sentinel], laidTests := true, laidLooks := .later }
def BureauSmallUptoCardSaid : Prop := Claim7.holds Tryz.pinned (.plain (OpenSpec.upto bureauSmallSpec)) bureauSmallUptoCard

/-- THE SECOND FORM's CARD OF 'letterbaglaw43.BureauKeeps'. -/
def bureauKeepsUptoCard : Claim7 := { stood := { row := bureauKeepsUptoRow, standIns := [], harness := (true, "f68b62229a9602ece8cf594289ede6e5acddaa295c34b5ab9f443657b56386d4"), looks := true }, kinds := [], alts := [], laidByText := true, laidKinds := [.data, .data, .data, .sentinel, .sentinel], laidTests := true, laidLooks := .later }
def BureauKeepsUptoCardSaid : Prop := Claim7.holds Tryz.pinned (.plain (OpenSpec.upto bureauKeepsSpec)) bureauKeepsUptoCard

/-- THE SECOND FORM's CARD OF 'letterbaglaw43.BureauFails'. -/
def bureauFailsUptoCard : Claim7 := { stood := { row := bureauFailsUptoRow, standIns := [], harness := (true, "f68b62229a9602ece8cf594289ede6e5acddaa295c34b5ab9f443657b56386d4"), looks := true }, kinds := [], alts := [], laidByText := true, laidKinds := [.data, .data, .data, .sentinel, .sentinel], laidTests := true, laidLooks := .later }
def BureauFailsUptoCardSaid : Prop := Claim7.holds Tryz.pinned (.plain (OpenSpec.upto bureauFailsSpec)) bureauFailsUptoCard

/-- THE SECOND FORM's CARD OF 'letterbaglaw43.BureauDoes'. -/
def bureauDoesUptoCard : Claim7 := { stood := { row := bureauDoesUptoRow, standIns := [], harness := (true, "f68b62229a9602ece8cf594289ede6e5acddaa295c34b5ab9f443657b56386d4"), looks := true }, kinds := [], alts := [], laidByText := true, laidKinds := [.data, .data, .data, .sentinel, .sentinel], laidTests := true, laidLooks := .later }
def BureauDoesUptoCardSaid : Prop := Claim7.holds Tryz.pinned (.plain (OpenSpec.upto bureauDoesSpec)) bureauDoesUptoCard

/-- THE SECOND FORM's CARD OF 'letterbaglaw43.BureauOpens'. -/
def bureauOpensUptoCard : Claim7 := { stood := { row := bureauOpensUptoRow, standIns := [], harness := (true, "f68b62229a9602ece8cf594289ede6e5acddaa295c34b5ab9f443657b56386d4"), looks := true }, kinds := [], alts := [], laidByText := true, laidKinds := [.data, .data, .data, .sentinel, .sentinel], laidTests := true, laidLooks := .later }
def BureauOpensUptoCardSaid : Prop := Claim7.holds Tryz.pinned (.plain (OpenSpec.upto bureauOpensSpec)) bureauOpensUptoCard

/-- THE SECOND FORM's CARD OF 'letterbaglaw43.BureauSame'. -/
def bureauSameUptoCard : Claim7 := { stood := { row := bureauSameUptoRow, standIns := [], harness := (true, "f68b62229a9602ece8cf594289ede6e5acddaa295c34b5ab9f443657b56386d4"), looks := true }, kinds := [], alts := [], laidByText := true, laidKinds := [.data, .data, .data, .sentinel, .sentinel], laidTests := true, laidLooks := .later }
def BureauSameUptoCardSaid : Prop := Claim7.holds Tryz.pinned (.plain (OpenSpec.upto bureauSameSpec)) bureauSameUptoCard

/-- THE SECOND FORM's CARD OF 'letterbaglaw43.BureauSees'. -/
def bureauSeesUptoCard : Claim7 := { stood := { row := bureauSeesUptoRow, standIns := [], harness := (true, "f68b62229a9602ece8cf594289ede6e5acddaa295c34b5ab9f443657b56386d4"), looks := true }, kinds := [], alts := [], laidByText := true, laidKinds := [.data, .data, .data, .sentinel, .sentinel], laidTests := true, laidLooks := .later }
def BureauSeesUptoCardSaid : Prop := Claim7.holds Tryz.pinned (.plain (OpenSpec.upto bureauSeesSpec)) bureauSeesUptoCard
end Rows
end Go.Proofs.YtancgcogjokfcaaGreatDoor
