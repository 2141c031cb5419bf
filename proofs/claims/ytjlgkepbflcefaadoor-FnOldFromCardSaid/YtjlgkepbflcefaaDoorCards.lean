/-
  DERIVED. GIVEN WITH THE SEED: THE CARDS: each row of YtjlgkepbflcefaaDoorRows.lean that lists a variable, with what it lists TIED to the program's text (the seventh form; the later family's looks); each row that meets fmt, with fmt's text TOLD by the authors' own Lean function (tested against real Go, not proved from fmt's source: count such statements apart). THE CARD IS WHAT COUNTS. Prove the row's statement (the work); the ties are given (YtjlgkepbflcefaaDoorTie.lean); close each card by the builder's one call (the guide's Derived/Test/ToyasCard.lean, 'card_holds'). Laid BY PROGRAM, IN A SANDBOX (cutbox-door.mjs). By AI agents, Wed Nov 11 2026. No macro, syntax, notation, axiom, sorry.
-/
import Derived.Test.YtjlgkepbflcefaaDoorRows
import GoSem.ClaimSeven
namespace Go.Proofs.YtjlgkepbflcefaaDoor
namespace Rows

/-- THE TIED CARD OF 'laws.FnExactAddressOf'. -/
def fnExactAddressOfCard : Claim7 := { stood := { row := fnExactAddressOfRow, standIns := [], harness := (true, "3e43bfca6011b704396a148b3487abf54668bed02c4dd4683412899e25cffae9"), looks := false }, kinds := [], alts := [], laidByText := true, laidKinds := [.data, .pinned], laidTests := true, laidLooks := .later }
def FnExactAddressOfCardSaid : Prop := Claim7.holds Tryd.pinned (.plain (OpenSpec.ofChange fnExactAddressOfSpec)) fnExactAddressOfCard

/-- THE TIED CARD OF 'laws.FnAddressOf'. -/
def fnAddressOfCard : Claim7 := { stood := { row := fnAddressOfRow, standIns := [], harness := (true, "3e43bfca6011b704396a148b3487abf54668bed02c4dd4683412899e25cffae9"), looks := false }, kinds := [], alts := [], laidByText := true, laidKinds := [.data, .pinned], laidTests := true, laidLooks := .later }
def FnAddressOfCardSaid : Prop := Claim7.holds Tryd.pinned (.plain (OpenSpec.ofChange fnAddressOfSpec)) fnAddressOfCard

/-- THE TIED CARD OF 'laws.FnOldBegin'. -/
def fnOldBeginCard : Claim7 := { stood := { row := fnOldBeginRow, standIns := [], harness := (true, "3e43bfca6011b704396a148b3487abf54668bed02c4dd4683412899e25cffae9"), looks := false }, kinds := [], alts := [], laidByText := true, laidKinds := [.data, .pinned], laidTests := true, laidLooks := .later }
def FnOldBeginCardSaid : Prop := Claim7.holds Tryd.pinned (.plain (OpenSpec.ofChange fnOldBeginSpec)) fnOldBeginCard

/-- THE TIED CARD OF 'laws.FnOldQuad'. -/
def fnOldQuadCard : Claim7 := { stood := { row := fnOldQuadRow, standIns := [], harness := (true, "3e43bfca6011b704396a148b3487abf54668bed02c4dd4683412899e25cffae9"), looks := false }, kinds := [], alts := [], laidByText := true, laidKinds := [.data, .pinned], laidTests := true, laidLooks := .later }
def FnOldQuadCardSaid : Prop := Claim7.holds Tryd.pinned (.plain (OpenSpec.ofChange fnOldQuadSpec)) fnOldQuadCard

/-- THE TIED CARD OF 'laws.FnOldSize'. -/
def fnOldSizeCard : Claim7 := { stood := { row := fnOldSizeRow, standIns := [], harness := (true, "3e43bfca6011b704396a148b3487abf54668bed02c4dd4683412899e25cffae9"), looks := false }, kinds := [], alts := [], laidByText := true, laidKinds := [.data, .pinned], laidTests := true, laidLooks := .later }
def FnOldSizeCardSaid : Prop := Claim7.holds Tryd.pinned (.plain (OpenSpec.ofChange fnOldSizeSpec)) fnOldSizeCard

/-- THE TIED CARD OF 'laws.FnOldPort'. -/
def fnOldPortCard : Claim7 := { stood := { row := fnOldPortRow, standIns := [], harness := (true, "3e43bfca6011b704396a148b3487abf54668bed02c4dd4683412899e25cffae9"), looks := false }, kinds := [], alts := [], laidByText := true, laidKinds := [.data, .pinned], laidTests := true, laidLooks := .later }
def FnOldPortCardSaid : Prop := Claim7.holds Tryd.pinned (.plain (OpenSpec.ofChange fnOldPortSpec)) fnOldPortCard

/-- THE TIED CARD OF 'laws.FnExactOldBytes'. -/
def fnExactOldBytesCard : Claim7 := { stood := { row := fnExactOldBytesRow, standIns := [], harness := (true, "3e43bfca6011b704396a148b3487abf54668bed02c4dd4683412899e25cffae9"), looks := false }, kinds := [], alts := [], laidByText := true, laidKinds := [.data, .pinned], laidTests := true, laidLooks := .later }
def FnExactOldBytesCardSaid : Prop := Claim7.holds Tryd.pinned (.plain (OpenSpec.ofChange fnExactOldBytesSpec)) fnExactOldBytesCard

/-- THE TIED CARD OF 'laws.FnExactOldFrom'. -/
def fnExactOldFromCard : Claim7 := { stood := { row := fnExactOldFromRow, standIns := [], harness := (true, "3e43bfca6011b704396a148b3487abf54668bed02c4dd4683412899e25cffae9"), looks := false }, kinds := [], alts := [], laidByText := true, laidKinds := [.data, .pinned], laidTests := true, laidLooks := .later }
def FnExactOldFromCardSaid : Prop := Claim7.holds Tryd.pinned (.plain (OpenSpec.ofChange fnExactOldFromSpec)) fnExactOldFromCard

/-- THE TIED CARD OF 'laws.FnOldCut'. -/
def fnOldCutCard : Claim7 := { stood := { row := fnOldCutRow, standIns := [], harness := (true, "3e43bfca6011b704396a148b3487abf54668bed02c4dd4683412899e25cffae9"), looks := false }, kinds := [], alts := [], laidByText := true, laidKinds := [.data, .pinned], laidTests := true, laidLooks := .later }
def FnOldCutCardSaid : Prop := Claim7.holds Tryd.pinned (.plain (OpenSpec.ofChange fnOldCutSpec)) fnOldCutCard

/-- THE TIED CARD OF 'laws.FnOld'. -/
def fnOldCard : Claim7 := { stood := { row := fnOldRow, standIns := [], harness := (true, "3e43bfca6011b704396a148b3487abf54668bed02c4dd4683412899e25cffae9"), looks := false }, kinds := [], alts := [], laidByText := true, laidKinds := [.data, .pinned], laidTests := true, laidLooks := .later }
def FnOldCardSaid : Prop := Claim7.holds Tryd.pinned (.plain (OpenSpec.ofChange fnOldSpec)) fnOldCard

/-- THE TIED CARD OF 'laws.FnOldBehind'. -/
def fnOldBehindCard : Claim7 := { stood := { row := fnOldBehindRow, standIns := [], harness := (true, "3e43bfca6011b704396a148b3487abf54668bed02c4dd4683412899e25cffae9"), looks := false }, kinds := [], alts := [], laidByText := true, laidKinds := [.data, .pinned], laidTests := true, laidLooks := .later }
def FnOldBehindCardSaid : Prop := Claim7.holds Tryd.pinned (.plain (OpenSpec.ofChange fnOldBehindSpec)) fnOldBehindCard

/-- THE TIED CARD OF 'laws.FnOldFrom'. -/
def fnOldFromCard : Claim7 := { stood := { row := fnOldFromRow, standIns := [], harness := (true, "3e43bfca6011b704396a148b3487abf54668bed02c4dd4683412899e25cffae9"), looks := false }, kinds := [], alts := [], laidByText := true, laidKinds := [.data, .pinned], laidTests := true, laidLooks := .later }
def FnOldFromCardSaid : Prop := Claim7.holds Tryd.pinned (.plain (OpenSpec.ofChange fnOldFromSpec)) fnOldFromCard

/-- THE SECOND FORM's CARD OF 'laws.FnExactAddressOf'. -/
def fnExactAddressOfUptoCard : Claim7 := { stood := { row := fnExactAddressOfUptoRow, standIns := [], harness := (true, "3e43bfca6011b704396a148b3487abf54668bed02c4dd4683412899e25cffae9"), looks := false }, kinds := [], alts := [], laidByText := true, laidKinds := [.data, .pinned], laidTests := true, laidLooks := .later }
def FnExactAddressOfUptoCardSaid : Prop := Claim7.holds Tryd.pinned (.plain (OpenSpec.upto fnExactAddressOfSpec)) fnExactAddressOfUptoCard

/-- THE SECOND FORM's CARD OF 'laws.FnAddressOf'. -/
def fnAddressOfUptoCard : Claim7 := { stood := { row := fnAddressOfUptoRow, standIns := [], harness := (true, "3e43bfca6011b704396a148b3487abf54668bed02c4dd4683412899e25cffae9"), looks := false }, kinds := [], alts := [], laidByText := true, laidKinds := [.data, .pinned], laidTests := true, laidLooks := .later }
def FnAddressOfUptoCardSaid : Prop := Claim7.holds Tryd.pinned (.plain (OpenSpec.upto fnAddressOfSpec)) fnAddressOfUptoCard

/-- THE SECOND FORM's CARD OF 'laws.FnOldBegin'. -/
def fnOldBeginUptoCard : Claim7 := { stood := { row := fnOldBeginUptoRow, standIns := [], harness := (true, "3e43bfca6011b704396a148b3487abf54668bed02c4dd4683412899e25cffae9"), looks := false }, kinds := [], alts := [], laidByText := true, laidKinds := [.data, .pinned], laidTests := true, laidLooks := .later }
def FnOldBeginUptoCardSaid : Prop := Claim7.holds Tryd.pinned (.plain (OpenSpec.upto fnOldBeginSpec)) fnOldBeginUptoCard

/-- THE SECOND FORM's CARD OF 'laws.FnOldQuad'. -/
def fnOldQuadUptoCard : Claim7 := { stood := { row := fnOldQuadUptoRow, standIns := [], harness := (true, "3e43bfca6011b704396a148b3487abf54668bed02c4dd4683412899e25cffae9"), looks := false }, kinds := [], alts := [], laidByText := true, laidKinds := [.data, .pinned], laidTests := true, laidLooks := .later }
def FnOldQuadUptoCardSaid : Prop := Claim7.holds Tryd.pinned (.plain (OpenSpec.upto fnOldQuadSpec)) fnOldQuadUptoCard

/-- THE SECOND FORM's CARD OF 'laws.FnOldSize'. -/
def fnOldSizeUptoCard : Claim7 := { stood := { row := fnOldSizeUptoRow, standIns := [], harness := (true, "3e43bfca6011b704396a148b3487abf54668bed02c4dd4683412899e25cffae9"), looks := false }, kinds := [], alts := [], laidByText := true, laidKinds := [.data, .pinned], laidTests := true, laidLooks := .later }
def FnOldSizeUptoCardSaid : Prop := Claim7.holds Tryd.pinned (.plain (OpenSpec.upto fnOldSizeSpec)) fnOldSizeUptoCard

/-- THE SECOND FORM's CARD OF 'laws.FnOldPort'. -/
def fnOldPortUptoCard : Claim7 := { stood := { row := fnOldPortUptoRow, standIns := [], harness := (true, "3e43bfca6011b704396a148b3487abf54668bed02c4dd4683412899e25cffae9"), looks := false }, kinds := [], alts := [], laidByText := true, laidKinds := [.data, .pinned], laidTests := true, laidLooks := .later }
def FnOldPortUptoCardSaid : Prop := Claim7.holds Tryd.pinned (.plain (OpenSpec.upto fnOldPortSpec)) fnOldPortUptoCard

/-- THE SECOND FORM's CARD OF 'laws.FnExactOldBytes'. -/
def fnExactOldBytesUptoCard : Claim7 := { stood := { row := fnExactOldBytesUptoRow, standIns := [], harness := (true, "3e43bfca6011b704396a148b3487abf54668bed02c4dd4683412899e25cffae9"), looks := false }, kinds := [], alts := [], laidByText := true, laidKinds := [.data, .pinned], laidTests := true, laidLooks := .later }
def FnExactOldBytesUptoCardSaid : Prop := Claim7.holds Tryd.pinned (.plain (OpenSpec.upto fnExactOldBytesSpec)) fnExactOldBytesUptoCard

/-- THE SECOND FORM's CARD OF 'laws.FnExactOldFrom'. -/
def fnExactOldFromUptoCard : Claim7 := { stood := { row := fnExactOldFromUptoRow, standIns := [], harness := (true, "3e43bfca6011b704396a148b3487abf54668bed02c4dd4683412899e25cffae9"), looks := false }, kinds := [], alts := [], laidByText := true, laidKinds := [.data, .pinned], laidTests := true, laidLooks := .later }
def FnExactOldFromUptoCardSaid : Prop := Claim7.holds Tryd.pinned (.plain (OpenSpec.upto fnExactOldFromSpec)) fnExactOldFromUptoCard

/-- THE SECOND FORM's CARD OF 'laws.FnOldCut'. -/
def fnOldCutUptoCard : Claim7 := { stood := { row := fnOldCutUptoRow, standIns := [], harness := (true, "3e43bfca6011b704396a148b3487abf54668bed02c4dd4683412899e25cffae9"), looks := false }, kinds := [], alts := [], laidByText := true, laidKinds := [.data, .pinned], laidTests := true, laidLooks := .later }
def FnOldCutUptoCardSaid : Prop := Claim7.holds Tryd.pinned (.plain (OpenSpec.upto fnOldCutSpec)) fnOldCutUptoCard

/-- THE SECOND FORM's CARD OF 'laws.FnOld'. -/
def fnOldUptoCard : Claim7 := { stood := { row := fnOldUptoRow, standIns := [], harness := (true, "3e43bfca6011b704396a148b3487abf54668bed02c4dd4683412899e25cffae9"), looks := false }, kinds := [], alts := [], laidByText := true, laidKinds := [.data, .pinned], laidTests := true, laidLooks := .later }
def FnOldUptoCardSaid : Prop := Claim7.holds Tryd.pinned (.plain (OpenSpec.upto fnOldSpec)) fnOldUptoCard

/-- THE SECOND FORM's CARD OF 'laws.FnOldBehind'. -/
def fnOldBehindUptoCard : Claim7 := { stood := { row := fnOldBehindUptoRow, standIns := [], harness := (true, "3e43bfca6011b704396a148b3487abf54668bed02c4dd4683412899e25cffae9"), looks := false }, kinds := [], alts := [], laidByText := true, laidKinds := [.data, .pinned], laidTests := true, laidLooks := .later }
def FnOldBehindUptoCardSaid : Prop := Claim7.holds Tryd.pinned (.plain (OpenSpec.upto fnOldBehindSpec)) fnOldBehindUptoCard

/-- THE SECOND FORM's CARD OF 'laws.FnOldFrom'. -/
def fnOldFromUptoCard : Claim7 := { stood := { row := fnOldFromUptoRow, standIns := [], harness := (true, "3e43bfca6011b704396a148b3487abf54668bed02c4dd4683412899e25cffae9"), looks := false }, kinds := [], alts := [], laidByText := true, laidKinds := [.data, .pinned], laidTests := true, laidLooks := .later }
def FnOldFromUptoCardSaid : Prop := Claim7.holds Tryd.pinned (.plain (OpenSpec.upto fnOldFromSpec)) fnOldFromUptoCard
end Rows
end Go.Proofs.YtjlgkepbflcefaaDoor
