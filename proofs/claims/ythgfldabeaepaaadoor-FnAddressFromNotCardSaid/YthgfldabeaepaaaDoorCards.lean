/-
  DERIVED. GIVEN WITH THE SEED: THE CARDS: each row of YthgfldabeaepaaaDoorRows.lean that lists a variable, with what it lists TIED to the program's text (the seventh form; the later family's looks); each row that meets fmt, with fmt's text TOLD by the authors' own Lean function (tested against real Go, not proved from fmt's source: count such statements apart). THE CARD IS WHAT COUNTS. Prove the row's statement (the work); the ties are given (YthgfldabeaepaaaDoorTie.lean); close each card by the builder's one call (the guide's Derived/Test/ToyasCard.lean, 'card_holds'). Laid BY PROGRAM, IN A SANDBOX (cutbox-door.mjs). By AI agents, Wed Nov 11 2026. No macro, syntax, notation, axiom, sorry.
-/
import Derived.Test.YthgfldabeaepaaaDoorRows
import GoSem.ClaimSeven
namespace Go.Proofs.YthgfldabeaepaaaDoor
namespace Rows

/-- THE TIED CARD OF 'laws.FnExactQuadText'. -/
def fnExactQuadTextCard : Claim7 := { stood := { row := fnExactQuadTextRow, standIns := [], harness := (true, "167bc41ec53dffdd467fdfe508bf00e3c2d0be25726358bf432000fea9696fcd"), looks := true }, kinds := [], alts := [], laidByText := true, laidKinds := [.data, .data, .data], laidTests := true, laidLooks := .later }
def FnExactQuadTextCardSaid : Prop := Claim7.holds Tryd.pinned (.plain (OpenSpec.ofChange fnExactQuadTextSpec)) fnExactQuadTextCard

/-- THE TIED CARD OF 'laws.FnQuadSize'. -/
def fnQuadSizeCard : Claim7 := { stood := { row := fnQuadSizeRow, standIns := [], harness := (true, "167bc41ec53dffdd467fdfe508bf00e3c2d0be25726358bf432000fea9696fcd"), looks := true }, kinds := [], alts := [], laidByText := true, laidKinds := [.data, .data, .data], laidTests := true, laidLooks := .later }
def FnQuadSizeCardSaid : Prop := Claim7.holds Tryd.pinned (.plain (OpenSpec.ofChange fnQuadSizeSpec)) fnQuadSizeCard

/-- THE TIED CARD OF 'laws.FnNameQuad'. -/
def fnNameQuadCard : Claim7 := { stood := { row := fnNameQuadRow, standIns := [], harness := (true, "167bc41ec53dffdd467fdfe508bf00e3c2d0be25726358bf432000fea9696fcd"), looks := true }, kinds := [], alts := [], laidByText := true, laidKinds := [.data, .data, .data, .data, .pinned], laidTests := true, laidLooks := .later }
def FnNameQuadCardSaid : Prop := Claim7.holds Tryd.pinned (.plain (OpenSpec.ofChange fnNameQuadSpec)) fnNameQuadCard

/-- THE TIED CARD OF 'laws.FnExactQuadFrom'. -/
def fnExactQuadFromCard : Claim7 := { stood := { row := fnExactQuadFromRow, standIns := [], harness := (true, "167bc41ec53dffdd467fdfe508bf00e3c2d0be25726358bf432000fea9696fcd"), looks := true }, kinds := [], alts := [], laidByText := true, laidKinds := [.data, .data, .data, .data, .sentinel, .sentinel, .pinned], laidTests := true, laidLooks := .later }
def FnExactQuadFromCardSaid : Prop := Claim7.holds Tryd.pinned (.plain (OpenSpec.ofChange fnExactQuadFromSpec)) fnExactQuadFromCard

/-- THE TIED CARD OF 'laws.FnQuadFromNot'. -/
def fnQuadFromNotCard : Claim7 := { stood := { row := fnQuadFromNotRow, standIns := [], harness := (true, "167bc41ec53dffdd467fdfe508bf00e3c2d0be25726358bf432000fea9696fcd"), looks := true }, kinds := [], alts := [], laidByText := true, laidKinds := [.data, .data, .data, .data, .sentinel, .sentinel, .pinned], laidTests := true, laidLooks := .later }
def FnQuadFromNotCardSaid : Prop := Claim7.holds Tryd.pinned (.plain (OpenSpec.ofChange fnQuadFromNotSpec)) fnQuadFromNotCard

/-- THE TIED CARD OF 'laws.FnQuadText'. -/
def fnQuadTextCard : Claim7 := { stood := { row := fnQuadTextRow, standIns := [], harness := (true, "167bc41ec53dffdd467fdfe508bf00e3c2d0be25726358bf432000fea9696fcd"), looks := true }, kinds := [], alts := [], laidByText := true, laidKinds := [.data, .data, .data, .data, .sentinel, .sentinel, .pinned], laidTests := true, laidLooks := .later }
def FnQuadTextCardSaid : Prop := Claim7.holds Tryd.pinned (.plain (OpenSpec.ofChange fnQuadTextSpec)) fnQuadTextCard

/-- THE TIED CARD OF 'laws.FnQuadFrom'. -/
def fnQuadFromCard : Claim7 := { stood := { row := fnQuadFromRow, standIns := [], harness := (true, "167bc41ec53dffdd467fdfe508bf00e3c2d0be25726358bf432000fea9696fcd"), looks := true }, kinds := [], alts := [], laidByText := true, laidKinds := [.data, .data, .data, .data, .sentinel, .sentinel, .pinned], laidTests := true, laidLooks := .later }
def FnQuadFromCardSaid : Prop := Claim7.holds Tryd.pinned (.plain (OpenSpec.ofChange fnQuadFromSpec)) fnQuadFromCard

/-- THE TIED CARD OF 'laws.FnExactAddressText'. -/
def fnExactAddressTextCard : Claim7 := { stood := { row := fnExactAddressTextRow, standIns := [], harness := (true, "167bc41ec53dffdd467fdfe508bf00e3c2d0be25726358bf432000fea9696fcd"), looks := true }, kinds := [], alts := [], laidByText := true, laidKinds := [.data, .data, .data, .data, .pinned], laidTests := true, laidLooks := .later }
def FnExactAddressTextCardSaid : Prop := Claim7.holds Tryd.pinned (.plain (OpenSpec.ofChange fnExactAddressTextSpec)) fnExactAddressTextCard

/-- THE TIED CARD OF 'laws.FnAddressText'. -/
def fnAddressTextCard : Claim7 := { stood := { row := fnAddressTextRow, standIns := [], harness := (true, "167bc41ec53dffdd467fdfe508bf00e3c2d0be25726358bf432000fea9696fcd"), looks := true }, kinds := [], alts := [], laidByText := true, laidKinds := [.data, .data, .data, .data, .sentinel, .sentinel, .pinned], laidTests := true, laidLooks := .later }
def FnAddressTextCardSaid : Prop := Claim7.holds Tryd.pinned (.plain (OpenSpec.ofChange fnAddressTextSpec)) fnAddressTextCard

/-- THE TIED CARD OF 'laws.FnAddressFromNot'. -/
def fnAddressFromNotCard : Claim7 := { stood := { row := fnAddressFromNotRow, standIns := [], harness := (true, "167bc41ec53dffdd467fdfe508bf00e3c2d0be25726358bf432000fea9696fcd"), looks := true }, kinds := [], alts := [], laidByText := true, laidKinds := [.data, .data, .data, .data, .sentinel, .sentinel, .pinned], laidTests := true, laidLooks := .later }
def FnAddressFromNotCardSaid : Prop := Claim7.holds Tryd.pinned (.plain (OpenSpec.ofChange fnAddressFromNotSpec)) fnAddressFromNotCard

/-- THE TIED CARD OF 'laws.FnExactAddressFrom'. -/
def fnExactAddressFromCard : Claim7 := { stood := { row := fnExactAddressFromRow, standIns := [], harness := (true, "167bc41ec53dffdd467fdfe508bf00e3c2d0be25726358bf432000fea9696fcd"), looks := true }, kinds := [], alts := [], laidByText := true, laidKinds := [.data, .data, .data, .data, .sentinel, .sentinel, .pinned], laidTests := true, laidLooks := .later }
def FnExactAddressFromCardSaid : Prop := Claim7.holds Tryd.pinned (.plain (OpenSpec.ofChange fnExactAddressFromSpec)) fnExactAddressFromCard

/-- THE SECOND FORM's CARD OF 'laws.FnExactQuadText'. -/
def fnExactQuadTextUptoCard : Claim7 := { stood := { row := fnExactQuadTextUptoRow, standIns := [], harness := (true, "167bc41ec53dffdd467fdfe508bf00e3c2d0be25726358bf432000fea9696fcd"), looks := true }, kinds := [], alts := [], laidByText := true, laidKinds := [.data, .data, .data], laidTests := true, laidLooks := .later }
def FnExactQuadTextUptoCardSaid : Prop := Claim7.holds Tryd.pinned (.plain (OpenSpec.upto fnExactQuadTextSpec)) fnExactQuadTextUptoCard

/-- THE SECOND FORM's CARD OF 'laws.FnQuadSize'. -/
def fnQuadSizeUptoCard : Claim7 := { stood := { row := fnQuadSizeUptoRow, standIns := [], harness := (true, "167bc41ec53dffdd467fdfe508bf00e3c2d0be25726358bf432000fea9696fcd"), looks := true }, kinds := [], alts := [], laidByText := true, laidKinds := [.data, .data, .data], laidTests := true, laidLooks := .later }
def FnQuadSizeUptoCardSaid : Prop := Claim7.holds Tryd.pinned (.plain (OpenSpec.upto fnQuadSizeSpec)) fnQuadSizeUptoCard

/-- THE SECOND FORM's CARD OF 'laws.FnNameQuad'. -/
def fnNameQuadUptoCard : Claim7 := { stood := { row := fnNameQuadUptoRow, standIns := [], harness := (true, "167bc41ec53dffdd467fdfe508bf00e3c2d0be25726358bf432000fea9696fcd"), looks := true }, kinds := [], alts := [], laidByText := true, laidKinds := [.data, .data, .data, .data, .pinned], laidTests := true, laidLooks := .later }
def FnNameQuadUptoCardSaid : Prop := Claim7.holds Tryd.pinned (.plain (OpenSpec.upto fnNameQuadSpec)) fnNameQuadUptoCard

/-- THE SECOND FORM's CARD OF 'laws.FnExactQuadFrom'. -/
def fnExactQuadFromUptoCard : Claim7 := { stood := { row := fnExactQuadFromUptoRow, standIns := [], harness := (true, "167bc41ec53dffdd467fdfe508bf00e3c2d0be25726358bf432000fea9696fcd"), looks := true }, kinds := [], alts := [], laidByText := true, laidKinds := [.data, .data, .data, .data, .sentinel, .sentinel, .pinned], laidTests := true, laidLooks := .later }
def FnExactQuadFromUptoCardSaid : Prop := Claim7.holds Tryd.pinned (.plain (OpenSpec.upto fnExactQuadFromSpec)) fnExactQuadFromUptoCard

/-- THE SECOND FORM's CARD OF 'laws.FnQuadFromNot'. -/
def fnQuadFromNotUptoCard : Claim7 := { stood := { row := fnQuadFromNotUptoRow, standIns := [], harness := (true, "167bc41ec53dffdd467fdfe508bf00e3c2d0be25726358bf432000fea9696fcd"), looks := true }, kinds := [], alts := [], laidByText := true, laidKinds := [.data, .data, .data, .data, .sentinel, .sentinel, .pinned], laidTests := true, laidLooks := .later }
def FnQuadFromNotUptoCardSaid : Prop := Claim7.holds Tryd.pinned (.plain (OpenSpec.upto fnQuadFromNotSpec)) fnQuadFromNotUptoCard

/-- THE SECOND FORM's CARD OF 'laws.FnQuadText'. -/
def fnQuadTextUptoCard : Claim7 := { stood := { row := fnQuadTextUptoRow, standIns := [], harness := (true, "167bc41ec53dffdd467fdfe508bf00e3c2d0be25726358bf432000fea9696fcd"), looks := true }, kinds := [], alts := [], laidByText := true, laidKinds := [.data, .data, .data, .data, .sentinel, .sentinel, .pinned], laidTests := true, laidLooks := .later }
def FnQuadTextUptoCardSaid : Prop := Claim7.holds Tryd.pinned (.plain (OpenSpec.upto fnQuadTextSpec)) fnQuadTextUptoCard

/-- THE SECOND FORM's CARD OF 'laws.FnQuadFrom'. -/
def fnQuadFromUptoCard : Claim7 := { stood := { row := fnQuadFromUptoRow, standIns := [], harness := (true, "167bc41ec53dffdd467fdfe508bf00e3c2d0be25726358bf432000fea9696fcd"), looks := true }, kinds := [], alts := [], laidByText := true, laidKinds := [.data, .data, .data, .data, .sentinel, .sentinel, .pinned], laidTests := true, laidLooks := .later }
def FnQuadFromUptoCardSaid : Prop := Claim7.holds Tryd.pinned (.plain (OpenSpec.upto fnQuadFromSpec)) fnQuadFromUptoCard

/-- THE SECOND FORM's CARD OF 'laws.FnExactAddressText'. -/
def fnExactAddressTextUptoCard : Claim7 := { stood := { row := fnExactAddressTextUptoRow, standIns := [], harness := (true, "167bc41ec53dffdd467fdfe508bf00e3c2d0be25726358bf432000fea9696fcd"), looks := true }, kinds := [], alts := [], laidByText := true, laidKinds := [.data, .data, .data, .data, .pinned], laidTests := true, laidLooks := .later }
def FnExactAddressTextUptoCardSaid : Prop := Claim7.holds Tryd.pinned (.plain (OpenSpec.upto fnExactAddressTextSpec)) fnExactAddressTextUptoCard

/-- THE SECOND FORM's CARD OF 'laws.FnAddressText'. -/
def fnAddressTextUptoCard : Claim7 := { stood := { row := fnAddressTextUptoRow, standIns := [], harness := (true, "167bc41ec53dffdd467fdfe508bf00e3c2d0be25726358bf432000fea9696fcd"), looks := true }, kinds := [], alts := [], laidByText := true, laidKinds := [.data, .data, .data, .data, .sentinel, .sentinel, .pinned], laidTests := true, laidLooks := .later }
def FnAddressTextUptoCardSaid : Prop := Claim7.holds Tryd.pinned (.plain (OpenSpec.upto fnAddressTextSpec)) fnAddressTextUptoCard

/-- THE SECOND FORM's CARD OF 'laws.FnAddressFromNot'. -/
def fnAddressFromNotUptoCard : Claim7 := { stood := { row := fnAddressFromNotUptoRow, standIns := [], harness := (true, "167bc41ec53dffdd467fdfe508bf00e3c2d0be25726358bf432000fea9696fcd"), looks := true }, kinds := [], alts := [], laidByText := true, laidKinds := [.data, .data, .data, .data, .sentinel, .sentinel, .pinned], laidTests := true, laidLooks := .later }
def FnAddressFromNotUptoCardSaid : Prop := Claim7.holds Tryd.pinned (.plain (OpenSpec.upto fnAddressFromNotSpec)) fnAddressFromNotUptoCard

/-- THE SECOND FORM's CARD OF 'laws.FnExactAddressFrom'. -/
def fnExactAddressFromUptoCard : Claim7 := { stood := { row := fnExactAddressFromUptoRow, standIns := [], harness := (true, "167bc41ec53dffdd467fdfe508bf00e3c2d0be25726358bf432000fea9696fcd"), looks := true }, kinds := [], alts := [], laidByText := true, laidKinds := [.data, .data, .data, .data, .sentinel, .sentinel, .pinned], laidTests := true, laidLooks := .later }
def FnExactAddressFromUptoCardSaid : Prop := Claim7.holds Tryd.pinned (.plain (OpenSpec.upto fnExactAddressFromSpec)) fnExactAddressFromUptoCard
end Rows
end Go.Proofs.YthgfldabeaepaaaDoor
