/-
  DERIVED. GIVEN WITH THE SEED: THE CARDS: each row of YtfikfihcjddgnaaDoorRows.lean that lists a variable, with what it lists TIED to the program's text (the seventh form; the later family's looks); each row that meets fmt, with fmt's text TOLD by the authors' own Lean function (tested against real Go, not proved from fmt's source: count such statements apart). THE CARD IS WHAT COUNTS. Prove the row's statement (the work); the ties are given (YtfikfihcjddgnaaDoorTie.lean); close each card by the builder's one call (the guide's Derived/Test/ToyasCard.lean, 'card_holds'). Laid BY PROGRAM, IN A SANDBOX (cutbox-door.mjs). By AI agents, Wed Nov 11 2026. No macro, syntax, notation, axiom, sorry.
-/
import Derived.Test.YtfikfihcjddgnaaDoorRows
import GoSem.ClaimSeven
namespace Go.Proofs.YtfikfihcjddgnaaDoor
namespace Rows

/-- THE TIED CARD OF 'laws.FnExactNameValid'. -/
def fnExactNameValidCard : Claim7 := { stood := { row := fnExactNameValidRow, standIns := [], harness := (true, "755f28501142d7f222c44095ce9407fcf05ee60de57dc06bb85b43ba5a62c662"), looks := false }, kinds := [], alts := [], laidByText := true, laidKinds := [.data, .pinned], laidTests := true, laidLooks := .later }
def FnExactNameValidCardSaid : Prop := Claim7.holds Tryd.pinned (.plain (OpenSpec.ofChange fnExactNameValidSpec)) fnExactNameValidCard

/-- THE TIED CARD OF 'laws.FnName'. -/
def fnNameCard : Claim7 := { stood := { row := fnNameRow, standIns := [], harness := (true, "755f28501142d7f222c44095ce9407fcf05ee60de57dc06bb85b43ba5a62c662"), looks := false }, kinds := [], alts := [], laidByText := true, laidKinds := [.data, .pinned], laidTests := true, laidLooks := .later }
def FnNameCardSaid : Prop := Claim7.holds Tryd.pinned (.plain (OpenSpec.ofChange fnNameSpec)) fnNameCard

/-- THE TIED CARD OF 'laws.FnNameLast'. -/
def fnNameLastCard : Claim7 := { stood := { row := fnNameLastRow, standIns := [], harness := (true, "755f28501142d7f222c44095ce9407fcf05ee60de57dc06bb85b43ba5a62c662"), looks := false }, kinds := [], alts := [], laidByText := true, laidKinds := [.data, .pinned], laidTests := true, laidLooks := .later }
def FnNameLastCardSaid : Prop := Claim7.holds Tryd.pinned (.plain (OpenSpec.ofChange fnNameLastSpec)) fnNameLastCard

/-- THE TIED CARD OF 'laws.FnNameParts'. -/
def fnNamePartsCard : Claim7 := { stood := { row := fnNamePartsRow, standIns := [], harness := (true, "755f28501142d7f222c44095ce9407fcf05ee60de57dc06bb85b43ba5a62c662"), looks := false }, kinds := [], alts := [], laidByText := true, laidKinds := [.data, .pinned], laidTests := true, laidLooks := .later }
def FnNamePartsCardSaid : Prop := Claim7.holds Tryd.pinned (.plain (OpenSpec.ofChange fnNamePartsSpec)) fnNamePartsCard

/-- THE TIED CARD OF 'laws.FnExactAddressValid'. -/
def fnExactAddressValidCard : Claim7 := { stood := { row := fnExactAddressValidRow, standIns := [], harness := (true, "755f28501142d7f222c44095ce9407fcf05ee60de57dc06bb85b43ba5a62c662"), looks := false }, kinds := [], alts := [], laidByText := true, laidKinds := [.data, .pinned], laidTests := true, laidLooks := .later }
def FnExactAddressValidCardSaid : Prop := Claim7.holds Tryd.pinned (.plain (OpenSpec.ofChange fnExactAddressValidSpec)) fnExactAddressValidCard

/-- THE TIED CARD OF 'laws.FnAddressPart'. -/
def fnAddressPartCard : Claim7 := { stood := { row := fnAddressPartRow, standIns := [], harness := (true, "755f28501142d7f222c44095ce9407fcf05ee60de57dc06bb85b43ba5a62c662"), looks := false }, kinds := [], alts := [], laidByText := true, laidKinds := [.data, .pinned], laidTests := true, laidLooks := .later }
def FnAddressPartCardSaid : Prop := Claim7.holds Tryd.pinned (.plain (OpenSpec.ofChange fnAddressPartSpec)) fnAddressPartCard

/-- THE TIED CARD OF 'laws.FnExactQuadText'. -/
def fnExactQuadTextCard : Claim7 := { stood := { row := fnExactQuadTextRow, standIns := [], harness := (true, "755f28501142d7f222c44095ce9407fcf05ee60de57dc06bb85b43ba5a62c662"), looks := false }, kinds := [], alts := [], laidByText := true, laidKinds := [.data, .data, .data], laidTests := true, laidLooks := .later }
def FnExactQuadTextCardSaid : Prop := Claim7.holds Tryd.pinned (.plain (OpenSpec.ofChange fnExactQuadTextSpec)) fnExactQuadTextCard

/-- THE TIED CARD OF 'laws.FnQuadSize'. -/
def fnQuadSizeCard : Claim7 := { stood := { row := fnQuadSizeRow, standIns := [], harness := (true, "755f28501142d7f222c44095ce9407fcf05ee60de57dc06bb85b43ba5a62c662"), looks := false }, kinds := [], alts := [], laidByText := true, laidKinds := [.data, .data, .data], laidTests := true, laidLooks := .later }
def FnQuadSizeCardSaid : Prop := Claim7.holds Tryd.pinned (.plain (OpenSpec.ofChange fnQuadSizeSpec)) fnQuadSizeCard

/-- THE TIED CARD OF 'laws.FnNameQuad'. -/
def fnNameQuadCard : Claim7 := { stood := { row := fnNameQuadRow, standIns := [], harness := (true, "755f28501142d7f222c44095ce9407fcf05ee60de57dc06bb85b43ba5a62c662"), looks := false }, kinds := [], alts := [], laidByText := true, laidKinds := [.data, .data, .data, .data, .pinned], laidTests := true, laidLooks := .later }
def FnNameQuadCardSaid : Prop := Claim7.holds Tryd.pinned (.plain (OpenSpec.ofChange fnNameQuadSpec)) fnNameQuadCard

/-- THE SECOND FORM's CARD OF 'laws.FnExactNameValid'. -/
def fnExactNameValidUptoCard : Claim7 := { stood := { row := fnExactNameValidUptoRow, standIns := [], harness := (true, "755f28501142d7f222c44095ce9407fcf05ee60de57dc06bb85b43ba5a62c662"), looks := false }, kinds := [], alts := [], laidByText := true, laidKinds := [.data, .pinned], laidTests := true, laidLooks := .later }
def FnExactNameValidUptoCardSaid : Prop := Claim7.holds Tryd.pinned (.plain (OpenSpec.upto fnExactNameValidSpec)) fnExactNameValidUptoCard

/-- THE SECOND FORM's CARD OF 'laws.FnName'. -/
def fnNameUptoCard : Claim7 := { stood := { row := fnNameUptoRow, standIns := [], harness := (true, "755f28501142d7f222c44095ce9407fcf05ee60de57dc06bb85b43ba5a62c662"), looks := false }, kinds := [], alts := [], laidByText := true, laidKinds := [.data, .pinned], laidTests := true, laidLooks := .later }
def FnNameUptoCardSaid : Prop := Claim7.holds Tryd.pinned (.plain (OpenSpec.upto fnNameSpec)) fnNameUptoCard

/-- THE SECOND FORM's CARD OF 'laws.FnNameLast'. -/
def fnNameLastUptoCard : Claim7 := { stood := { row := fnNameLastUptoRow, standIns := [], harness := (true, "755f28501142d7f222c44095ce9407fcf05ee60de57dc06bb85b43ba5a62c662"), looks := false }, kinds := [], alts := [], laidByText := true, laidKinds := [.data, .pinned], laidTests := true, laidLooks := .later }
def FnNameLastUptoCardSaid : Prop := Claim7.holds Tryd.pinned (.plain (OpenSpec.upto fnNameLastSpec)) fnNameLastUptoCard

/-- THE SECOND FORM's CARD OF 'laws.FnNameParts'. -/
def fnNamePartsUptoCard : Claim7 := { stood := { row := fnNamePartsUptoRow, standIns := [], harness := (true, "755f28501142d7f222c44095ce9407fcf05ee60de57dc06bb85b43ba5a62c662"), looks := false }, kinds := [], alts := [], laidByText := true, laidKinds := [.data, .pinned], laidTests := true, laidLooks := .later }
def FnNamePartsUptoCardSaid : Prop := Claim7.holds Tryd.pinned (.plain (OpenSpec.upto fnNamePartsSpec)) fnNamePartsUptoCard

/-- THE SECOND FORM's CARD OF 'laws.FnExactAddressValid'. -/
def fnExactAddressValidUptoCard : Claim7 := { stood := { row := fnExactAddressValidUptoRow, standIns := [], harness := (true, "755f28501142d7f222c44095ce9407fcf05ee60de57dc06bb85b43ba5a62c662"), looks := false }, kinds := [], alts := [], laidByText := true, laidKinds := [.data, .pinned], laidTests := true, laidLooks := .later }
def FnExactAddressValidUptoCardSaid : Prop := Claim7.holds Tryd.pinned (.plain (OpenSpec.upto fnExactAddressValidSpec)) fnExactAddressValidUptoCard

/-- THE SECOND FORM's CARD OF 'laws.FnAddressPart'. -/
def fnAddressPartUptoCard : Claim7 := { stood := { row := fnAddressPartUptoRow, standIns := [], harness := (true, "755f28501142d7f222c44095ce9407fcf05ee60de57dc06bb85b43ba5a62c662"), looks := false }, kinds := [], alts := [], laidByText := true, laidKinds := [.data, .pinned], laidTests := true, laidLooks := .later }
def FnAddressPartUptoCardSaid : Prop := Claim7.holds Tryd.pinned (.plain (OpenSpec.upto fnAddressPartSpec)) fnAddressPartUptoCard

/-- THE SECOND FORM's CARD OF 'laws.FnExactQuadText'. -/
def fnExactQuadTextUptoCard : Claim7 := { stood := { row := fnExactQuadTextUptoRow, standIns := [], harness := (true, "755f28501142d7f222c44095ce9407fcf05ee60de57dc06bb85b43ba5a62c662"), looks := false }, kinds := [], alts := [], laidByText := true, laidKinds := [.data, .data, .data], laidTests := true, laidLooks := .later }
def FnExactQuadTextUptoCardSaid : Prop := Claim7.holds Tryd.pinned (.plain (OpenSpec.upto fnExactQuadTextSpec)) fnExactQuadTextUptoCard

/-- THE SECOND FORM's CARD OF 'laws.FnQuadSize'. -/
def fnQuadSizeUptoCard : Claim7 := { stood := { row := fnQuadSizeUptoRow, standIns := [], harness := (true, "755f28501142d7f222c44095ce9407fcf05ee60de57dc06bb85b43ba5a62c662"), looks := false }, kinds := [], alts := [], laidByText := true, laidKinds := [.data, .data, .data], laidTests := true, laidLooks := .later }
def FnQuadSizeUptoCardSaid : Prop := Claim7.holds Tryd.pinned (.plain (OpenSpec.upto fnQuadSizeSpec)) fnQuadSizeUptoCard

/-- THE SECOND FORM's CARD OF 'laws.FnNameQuad'. -/
def fnNameQuadUptoCard : Claim7 := { stood := { row := fnNameQuadUptoRow, standIns := [], harness := (true, "755f28501142d7f222c44095ce9407fcf05ee60de57dc06bb85b43ba5a62c662"), looks := false }, kinds := [], alts := [], laidByText := true, laidKinds := [.data, .data, .data, .data, .pinned], laidTests := true, laidLooks := .later }
def FnNameQuadUptoCardSaid : Prop := Claim7.holds Tryd.pinned (.plain (OpenSpec.upto fnNameQuadSpec)) fnNameQuadUptoCard
end Rows
end Go.Proofs.YtfikfihcjddgnaaDoor
