/-
  DERIVED. GIVEN WITH THE SEED: THE CARDS: each row of YthgfldabeaepaaaGreatDoorRows.lean that lists a variable, with what it lists TIED to the program's text (the seventh form; the later family's looks); each row that meets fmt, with fmt's text TOLD by the authors' own Lean function (tested against real Go, not proved from fmt's source: count such statements apart). THE CARD IS WHAT COUNTS. Prove the row's statement (the work); the ties are given (YthgfldabeaepaaaGreatDoorTie.lean); close each card by the builder's one call (the guide's Derived/Test/ToyasCard.lean, 'card_holds'). Laid BY PROGRAM, IN A SANDBOX (cutbox-door.mjs). By AI agents, Wed Nov 11 2026. No macro, syntax, notation, axiom, sorry.
-/
import Derived.Test.YthgfldabeaepaaaGreatDoorRows
import GoSem.ClaimSeven
namespace Go.Proofs.YthgfldabeaepaaaGreatDoor
namespace Rows

/-- THE TIED CARD OF 'laws.FnAddressFrom'. -/
def fnAddressFromCard : Claim7 := { stood := { row := fnAddressFromRow, standIns := [], harness := (true, "d29cab42807a5f85b4f9b27ba6a1608d91ef3faebc904d0dbb70fcab194af145"), looks := true }, kinds := [], alts := [], laidByText := true, laidKinds := [.data, .data, .data, .data, .sentinel, .sentinel, .pinned], laidTests := true, laidLooks := .later }
def FnAddressFromCardSaid : Prop := Claim7.holds Tryz.pinned (.plain (OpenSpec.ofChange fnAddressFromSpec)) fnAddressFromCard

/-- THE SECOND FORM's CARD OF 'laws.FnAddressFrom'. -/
def fnAddressFromUptoCard : Claim7 := { stood := { row := fnAddressFromUptoRow, standIns := [], harness := (true, "d29cab42807a5f85b4f9b27ba6a1608d91ef3faebc904d0dbb70fcab194af145"), looks := true }, kinds := [], alts := [], laidByText := true, laidKinds := [.data, .data, .data, .data, .sentinel, .sentinel, .pinned], laidTests := true, laidLooks := .later }
def FnAddressFromUptoCardSaid : Prop := Claim7.holds Tryz.pinned (.plain (OpenSpec.upto fnAddressFromSpec)) fnAddressFromUptoCard
end Rows
end Go.Proofs.YthgfldabeaepaaaGreatDoor
