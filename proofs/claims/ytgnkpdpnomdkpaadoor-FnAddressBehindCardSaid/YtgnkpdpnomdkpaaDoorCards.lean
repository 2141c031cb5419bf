/-
  DERIVED. GIVEN WITH THE SEED: THE CARDS: each row of YtgnkpdpnomdkpaaDoorRows.lean that lists a variable, with what it lists TIED to the program's text (the seventh form; the later family's looks); each row that meets fmt, with fmt's text TOLD by the authors' own Lean function (tested against real Go, not proved from fmt's source: count such statements apart). THE CARD IS WHAT COUNTS. Prove the row's statement (the work); the ties are given (YtgnkpdpnomdkpaaDoorTie.lean); close each card by the builder's one call (the guide's Derived/Test/ToyasCard.lean, 'card_holds'). Laid BY PROGRAM, IN A SANDBOX (cutbox-door.mjs). By AI agents, Wed Nov 11 2026. No macro, syntax, notation, axiom, sorry.
-/
import Derived.Test.YtgnkpdpnomdkpaaDoorRows
import GoSem.ClaimSeven
namespace Go.Proofs.YtgnkpdpnomdkpaaDoor
namespace Rows

/-- THE TIED CARD OF 'laws.FnAddressSize'. -/
def fnAddressSizeCard : Claim7 := { stood := { row := fnAddressSizeRow, standIns := [], harness := (true, "5d3a8e8c1e2b4524de6116f34e8b6d2dfbe0d7fdde9f772e511422cd3d68f224"), looks := false }, kinds := [], alts := [], laidByText := true, laidKinds := [.data, .pinned], laidTests := true, laidLooks := .later }
def FnAddressSizeCardSaid : Prop := Claim7.holds Tryd.pinned (.plain (OpenSpec.ofChange fnAddressSizeSpec)) fnAddressSizeCard

/-- THE TIED CARD OF 'laws.FnAddressKinds'. -/
def fnAddressKindsCard : Claim7 := { stood := { row := fnAddressKindsRow, standIns := [], harness := (true, "5d3a8e8c1e2b4524de6116f34e8b6d2dfbe0d7fdde9f772e511422cd3d68f224"), looks := false }, kinds := [], alts := [], laidByText := true, laidKinds := [.data, .pinned], laidTests := true, laidLooks := .later }
def FnAddressKindsCardSaid : Prop := Claim7.holds Tryd.pinned (.plain (OpenSpec.ofChange fnAddressKindsSpec)) fnAddressKindsCard

/-- THE TIED CARD OF 'laws.FnExactAddressBytes'. -/
def fnExactAddressBytesCard : Claim7 := { stood := { row := fnExactAddressBytesRow, standIns := [], harness := (true, "5d3a8e8c1e2b4524de6116f34e8b6d2dfbe0d7fdde9f772e511422cd3d68f224"), looks := false }, kinds := [], alts := [], laidByText := true, laidKinds := [.data, .pinned], laidTests := true, laidLooks := .later }
def FnExactAddressBytesCardSaid : Prop := Claim7.holds Tryd.pinned (.plain (OpenSpec.ofChange fnExactAddressBytesSpec)) fnExactAddressBytesCard

/-- THE TIED CARD OF 'laws.FnExactAddressOf'. -/
def fnExactAddressOfCard : Claim7 := { stood := { row := fnExactAddressOfRow, standIns := [], harness := (true, "5d3a8e8c1e2b4524de6116f34e8b6d2dfbe0d7fdde9f772e511422cd3d68f224"), looks := false }, kinds := [], alts := [], laidByText := true, laidKinds := [.data, .pinned], laidTests := true, laidLooks := .later }
def FnExactAddressOfCardSaid : Prop := Claim7.holds Tryd.pinned (.plain (OpenSpec.ofChange fnExactAddressOfSpec)) fnExactAddressOfCard

/-- THE TIED CARD OF 'laws.FnAddressCut'. -/
def fnAddressCutCard : Claim7 := { stood := { row := fnAddressCutRow, standIns := [], harness := (true, "5d3a8e8c1e2b4524de6116f34e8b6d2dfbe0d7fdde9f772e511422cd3d68f224"), looks := false }, kinds := [], alts := [], laidByText := true, laidKinds := [.data, .pinned], laidTests := true, laidLooks := .later }
def FnAddressCutCardSaid : Prop := Claim7.holds Tryd.pinned (.plain (OpenSpec.ofChange fnAddressCutSpec)) fnAddressCutCard

/-- THE TIED CARD OF 'laws.FnAddressBehind'. -/
def fnAddressBehindCard : Claim7 := { stood := { row := fnAddressBehindRow, standIns := [], harness := (true, "5d3a8e8c1e2b4524de6116f34e8b6d2dfbe0d7fdde9f772e511422cd3d68f224"), looks := false }, kinds := [], alts := [], laidByText := true, laidKinds := [.data, .pinned], laidTests := true, laidLooks := .later }
def FnAddressBehindCardSaid : Prop := Claim7.holds Tryd.pinned (.plain (OpenSpec.ofChange fnAddressBehindSpec)) fnAddressBehindCard

/-- THE TIED CARD OF 'laws.FnAddressBytes'. -/
def fnAddressBytesCard : Claim7 := { stood := { row := fnAddressBytesRow, standIns := [], harness := (true, "5d3a8e8c1e2b4524de6116f34e8b6d2dfbe0d7fdde9f772e511422cd3d68f224"), looks := false }, kinds := [], alts := [], laidByText := true, laidKinds := [.data, .pinned], laidTests := true, laidLooks := .later }
def FnAddressBytesCardSaid : Prop := Claim7.holds Tryd.pinned (.plain (OpenSpec.ofChange fnAddressBytesSpec)) fnAddressBytesCard

/-- THE TIED CARD OF 'laws.FnAddressOf'. -/
def fnAddressOfCard : Claim7 := { stood := { row := fnAddressOfRow, standIns := [], harness := (true, "5d3a8e8c1e2b4524de6116f34e8b6d2dfbe0d7fdde9f772e511422cd3d68f224"), looks := false }, kinds := [], alts := [], laidByText := true, laidKinds := [.data, .pinned], laidTests := true, laidLooks := .later }
def FnAddressOfCardSaid : Prop := Claim7.holds Tryd.pinned (.plain (OpenSpec.ofChange fnAddressOfSpec)) fnAddressOfCard

/-- THE TIED CARD OF 'laws.FnOldBegin'. -/
def fnOldBeginCard : Claim7 := { stood := { row := fnOldBeginRow, standIns := [], harness := (true, "5d3a8e8c1e2b4524de6116f34e8b6d2dfbe0d7fdde9f772e511422cd3d68f224"), looks := false }, kinds := [], alts := [], laidByText := true, laidKinds := [.data, .pinned], laidTests := true, laidLooks := .later }
def FnOldBeginCardSaid : Prop := Claim7.holds Tryd.pinned (.plain (OpenSpec.ofChange fnOldBeginSpec)) fnOldBeginCard

/-- THE TIED CARD OF 'laws.FnOldQuad'. -/
def fnOldQuadCard : Claim7 := { stood := { row := fnOldQuadRow, standIns := [], harness := (true, "5d3a8e8c1e2b4524de6116f34e8b6d2dfbe0d7fdde9f772e511422cd3d68f224"), looks := false }, kinds := [], alts := [], laidByText := true, laidKinds := [.data, .pinned], laidTests := true, laidLooks := .later }
def FnOldQuadCardSaid : Prop := Claim7.holds Tryd.pinned (.plain (OpenSpec.ofChange fnOldQuadSpec)) fnOldQuadCard

/-- THE TIED CARD OF 'laws.FnOldSize'. -/
def fnOldSizeCard : Claim7 := { stood := { row := fnOldSizeRow, standIns := [], harness := (true, "5d3a8e8c1e2b4524de6116f34e8b6d2dfbe0d7fdde9f772e511422cd3d68f224"), looks := false }, kinds := [], alts := [], laidByText := true, laidKinds := [.data, .pinned], laidTests := true, laidLooks := .later }
def FnOldSizeCardSaid : Prop := Claim7.holds Tryd.pinned (.plain (OpenSpec.ofChange fnOldSizeSpec)) fnOldSizeCard

/-- THE TIED CARD OF 'laws.FnOldPort'. -/
def fnOldPortCard : Claim7 := { stood := { row := fnOldPortRow, standIns := [], harness := (true, "5d3a8e8c1e2b4524de6116f34e8b6d2dfbe0d7fdde9f772e511422cd3d68f224"), looks := false }, kinds := [], alts := [], laidByText := true, laidKinds := [.data, .pinned], laidTests := true, laidLooks := .later }
def FnOldPortCardSaid : Prop := Claim7.holds Tryd.pinned (.plain (OpenSpec.ofChange fnOldPortSpec)) fnOldPortCard

/-- THE SECOND FORM's CARD OF 'laws.FnAddressSize'. -/
def fnAddressSizeUptoCard : Claim7 := { stood := { row := fnAddressSizeUptoRow, standIns := [], harness := (true, "5d3a8e8c1e2b4524de6116f34e8b6d2dfbe0d7fdde9f772e511422cd3d68f224"), looks := false }, kinds := [], alts := [], laidByText := true, laidKinds := [.data, .pinned], laidTests := true, laidLooks := .later }
def FnAddressSizeUptoCardSaid : Prop := Claim7.holds Tryd.pinned (.plain (OpenSpec.upto fnAddressSizeSpec)) fnAddressSizeUptoCard

/-- THE SECOND FORM's CARD OF 'laws.FnAddressKinds'. -/
def fnAddressKindsUptoCard : Claim7 := { stood := { row := fnAddressKindsUptoRow, standIns := [], harness := (true, "5d3a8e8c1e2b4524de6116f34e8b6d2dfbe0d7fdde9f772e511422cd3d68f224"), looks := false }, kinds := [], alts := [], laidByText := true, laidKinds := [.data, .pinned], laidTests := true, laidLooks := .later }
def FnAddressKindsUptoCardSaid : Prop := Claim7.holds Tryd.pinned (.plain (OpenSpec.upto fnAddressKindsSpec)) fnAddressKindsUptoCard

/-- THE SECOND FORM's CARD OF 'laws.FnExactAddressBytes'. -/
def fnExactAddressBytesUptoCard : Claim7 := { stood := { row := fnExactAddressBytesUptoRow, standIns := [], harness := (true, "5d3a8e8c1e2b4524de6116f34e8b6d2dfbe0d7fdde9f772e511422cd3d68f224"), looks := false }, kinds := [], alts := [], laidByText := true, laidKinds := [.data, .pinned], laidTests := true, laidLooks := .later }
def FnExactAddressBytesUptoCardSaid : Prop := Claim7.holds Tryd.pinned (.plain (OpenSpec.upto fnExactAddressBytesSpec)) fnExactAddressBytesUptoCard

/-- THE SECOND FORM's CARD OF 'laws.FnExactAddressOf'. -/
def fnExactAddressOfUptoCard : Claim7 := { stood := { row := fnExactAddressOfUptoRow, standIns := [], harness := (true, "5d3a8e8c1e2b4524de6116f34e8b6d2dfbe0d7fdde9f772e511422cd3d68f224"), looks := false }, kinds := [], alts := [], laidByText := true, laidKinds := [.data, .pinned], laidTests := true, laidLooks := .later }
def FnExactAddressOfUptoCardSaid : Prop := Claim7.holds Tryd.pinned (.plain (OpenSpec.upto fnExactAddressOfSpec)) fnExactAddressOfUptoCard

/-- THE SECOND FORM's CARD OF 'laws.FnAddressCut'. -/
def fnAddressCutUptoCard : Claim7 := { stood := { row := fnAddressCutUptoRow, standIns := [], harness := (true, "5d3a8e8c1e2b4524de6116f34e8b6d2dfbe0d7fdde9f772e511422cd3d68f224"), looks := false }, kinds := [], alts := [], laidByText := true, laidKinds := [.data, .pinned], laidTests := true, laidLooks := .later }
def FnAddressCutUptoCardSaid : Prop := Claim7.holds Tryd.pinned (.plain (OpenSpec.upto fnAddressCutSpec)) fnAddressCutUptoCard

/-- THE SECOND FORM's CARD OF 'laws.FnAddressBehind'. -/
def fnAddressBehindUptoCard : Claim7 := { stood := { row := fnAddressBehindUptoRow, standIns := [], harness := (true, "5d3a8e8c1e2b4524de6116f34e8b6d2dfbe0d7fdde9f772e511422cd3d68f224"), looks := false }, kinds := [], alts := [], laidByText := true, laidKinds := [.data, .pinned], laidTests := true, laidLooks := .later }
def FnAddressBehindUptoCardSaid : Prop := Claim7.holds Tryd.pinned (.plain (OpenSpec.upto fnAddressBehindSpec)) fnAddressBehindUptoCard

/-- THE SECOND FORM's CARD OF 'laws.FnAddressBytes'. -/
def fnAddressBytesUptoCard : Claim7 := { stood := { row := fnAddressBytesUptoRow, standIns := [], harness := (true, "5d3a8e8c1e2b4524de6116f34e8b6d2dfbe0d7fdde9f772e511422cd3d68f224"), looks := false }, kinds := [], alts := [], laidByText := true, laidKinds := [.data, .pinned], laidTests := true, laidLooks := .later }
def FnAddressBytesUptoCardSaid : Prop := Claim7.holds Tryd.pinned (.plain (OpenSpec.upto fnAddressBytesSpec)) fnAddressBytesUptoCard

/-- THE SECOND FORM's CARD OF 'laws.FnAddressOf'. -/
def fnAddressOfUptoCard : Claim7 := { stood := { row := fnAddressOfUptoRow, standIns := [], harness := (true, "5d3a8e8c1e2b4524de6116f34e8b6d2dfbe0d7fdde9f772e511422cd3d68f224"), looks := false }, kinds := [], alts := [], laidByText := true, laidKinds := [.data, .pinned], laidTests := true, laidLooks := .later }
def FnAddressOfUptoCardSaid : Prop := Claim7.holds Tryd.pinned (.plain (OpenSpec.upto fnAddressOfSpec)) fnAddressOfUptoCard

/-- THE SECOND FORM's CARD OF 'laws.FnOldBegin'. -/
def fnOldBeginUptoCard : Claim7 := { stood := { row := fnOldBeginUptoRow, standIns := [], harness := (true, "5d3a8e8c1e2b4524de6116f34e8b6d2dfbe0d7fdde9f772e511422cd3d68f224"), looks := false }, kinds := [], alts := [], laidByText := true, laidKinds := [.data, .pinned], laidTests := true, laidLooks := .later }
def FnOldBeginUptoCardSaid : Prop := Claim7.holds Tryd.pinned (.plain (OpenSpec.upto fnOldBeginSpec)) fnOldBeginUptoCard

/-- THE SECOND FORM's CARD OF 'laws.FnOldQuad'. -/
def fnOldQuadUptoCard : Claim7 := { stood := { row := fnOldQuadUptoRow, standIns := [], harness := (true, "5d3a8e8c1e2b4524de6116f34e8b6d2dfbe0d7fdde9f772e511422cd3d68f224"), looks := false }, kinds := [], alts := [], laidByText := true, laidKinds := [.data, .pinned], laidTests := true, laidLooks := .later }
def FnOldQuadUptoCardSaid : Prop := Claim7.holds Tryd.pinned (.plain (OpenSpec.upto fnOldQuadSpec)) fnOldQuadUptoCard

/-- THE SECOND FORM's CARD OF 'laws.FnOldSize'. -/
def fnOldSizeUptoCard : Claim7 := { stood := { row := fnOldSizeUptoRow, standIns := [], harness := (true, "5d3a8e8c1e2b4524de6116f34e8b6d2dfbe0d7fdde9f772e511422cd3d68f224"), looks := false }, kinds := [], alts := [], laidByText := true, laidKinds := [.data, .pinned], laidTests := true, laidLooks := .later }
def FnOldSizeUptoCardSaid : Prop := Claim7.holds Tryd.pinned (.plain (OpenSpec.upto fnOldSizeSpec)) fnOldSizeUptoCard

/-- THE SECOND FORM's CARD OF 'laws.FnOldPort'. -/
def fnOldPortUptoCard : Claim7 := { stood := { row := fnOldPortUptoRow, standIns := [], harness := (true, "5d3a8e8c1e2b4524de6116f34e8b6d2dfbe0d7fdde9f772e511422cd3d68f224"), looks := false }, kinds := [], alts := [], laidByText := true, laidKinds := [.data, .pinned], laidTests := true, laidLooks := .later }
def FnOldPortUptoCardSaid : Prop := Claim7.holds Tryd.pinned (.plain (OpenSpec.upto fnOldPortSpec)) fnOldPortUptoCard
end Rows
end Go.Proofs.YtgnkpdpnomdkpaaDoor
