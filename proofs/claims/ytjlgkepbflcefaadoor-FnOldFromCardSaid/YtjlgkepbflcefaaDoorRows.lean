/-
  NARROWER THAN 'FOR EVERY INPUT', by the rows' own cells (each row's printed sentence says how): FnExactAddressOf: laid · FnAddressOf: laid · FnOldBegin: laid · FnOldQuad: laid · FnOldSize: laid · FnOldPort: laid · FnExactOldBytes: laid · FnExactOldFrom: laid · FnOldCut: laid · FnOld: laid · FnOldBehind: laid · FnOldFrom: laid.
  DERIVED. THE GIVEN ROWS OF THIS SEAT. 12 by the template 'for every input the law returns true; each argument reads behind the call as it read before'; 0 by the template 'total and deterministic' (their statements: YtjlgkepbflcefaaDoorTotals.lean).
  GIVEN WITH THE SEED: the statements are not yours to turn. If you find one false, say at which input.
  Laid BY PROGRAM, IN A SANDBOX (cutbox-rows.mjs): the forced cells as the released guide's own fill.sh prints them over the translation c4c88cbae4d164ab… (all of the seat's roots in one cut). By AI agents, Wed Nov 11 2026. No macro, syntax, notation, axiom, sorry.
-/
import Derived.Test.YtjlgkepbflcefaaDoorChecked
import GoSem.PinnedTables
import GoSem.Claim
import GoSem.ClaimJoined
import GoSem.ClaimMapViews
import Derived.JoinedTies
import Derived.KernelRfl
namespace Go.Proofs.YtjlgkepbflcefaaDoor
/- THE CELL 'sum', in the pinned program and in every row, IS THE sha256 OF THE DUMP (.gsa) THAT YtjlgkepbflcefaaDoorProg.lean LOADS. Nothing in Lean hashes anything: it is a label: what it is worth is what the hold of that sum in a sandbox is worth. -/
noncomputable def Tryd.pinned : Pinned := { name := "ytjlgkepbflcefaadoor", sum := "c4c88cbae4d164abf3d5a27654287b7eec2689cc544e638c75f72ea62a8892e9", checked := Tryd.checked }
namespace Rows
def none {H : Type} : Left H := { results := [], args := [] }

/- WHAT THE LISTED PACKAGE-LEVEL VARIABLES READ AS WHEN THE CALL BEGINS. Each datum BY PROGRAM (the guide's laid-datum.mjs) off the statement by which the dump's own 'gosem.cut.vars' lays the variable. In a bare row this is a premise. The card (YtjlgkepbflcefaaDoorCards.lean) ties it to the program's text. -/
def laid_unicode_utf8_acceptRanges {H : Type} : DataW H := .agg [.agg [.lit (.int .u8 128), .lit (.int .u8 191)], .agg [.lit (.int .u8 160), .lit (.int .u8 191)], .agg [.lit (.int .u8 128), .lit (.int .u8 159)], .agg [.lit (.int .u8 144), .lit (.int .u8 191)], .agg [.lit (.int .u8 128), .lit (.int .u8 143)], .agg [.lit (.int .u8 0), .lit (.int .u8 0)], .agg [.lit (.int .u8 0), .lit (.int .u8 0)], .agg [.lit (.int .u8 0), .lit (.int .u8 0)], .agg [.lit (.int .u8 0), .lit (.int .u8 0)], .agg [.lit (.int .u8 0), .lit (.int .u8 0)], .agg [.lit (.int .u8 0), .lit (.int .u8 0)], .agg [.lit (.int .u8 0), .lit (.int .u8 0)], .agg [.lit (.int .u8 0), .lit (.int .u8 0)], .agg [.lit (.int .u8 0), .lit (.int .u8 0)], .agg [.lit (.int .u8 0), .lit (.int .u8 0)], .agg [.lit (.int .u8 0), .lit (.int .u8 0)]]
/-- One of Go's own tables, pinned by name: the form's constant. -/
def laid_unicode_utf8_first : DataW Unit := Go.Pinned.utf8First

/-- 'laws.FnExactAddressOf': WHATEVER THE INPUT: true; the input reads as it did. -/
def fnExactAddressOfSpec : ChangeSpec := { name := "fnExactAddressOf", fn := fun _ => fun
  | [d] => { results := [.lit (.bool true)], args := [d] }
  | _ => none }
def fnExactAddressOfRow : OpenClaim := { program := "ytjlgkepbflcefaadoor", sum := "c4c88cbae4d164abf3d5a27654287b7eec2689cc544e638c75f72ea62a8892e9", func := "loop.example/proxyframes/laws.FnExactAddressOf", spec := "fnExactAddressOf", inPlace := ["internal/bytealg.CountString", "internal/bytealg.IndexByteString", "internal/bytealg.IndexString"], unfollowed := true, recurses := true, named := ["unicode/utf8.first", "unicode/utf8.acceptRanges", "internal/bytealg.MaxLen"], apart := false, laid := [("unicode/utf8.acceptRanges", laid_unicode_utf8_acceptRanges), ("unicode/utf8.first", laid_unicode_utf8_first)] }
def FnExactAddressOfSaid : Prop := fnExactAddressOfRow.holds Tryd.pinned (OpenSpec.ofChange fnExactAddressOfSpec)

/-- ITS FALSE NEIGHBOUR: 'it returns false'. Refute it at one input. -/
def fnExactAddressOfWrong : ChangeSpec := { name := "fnExactAddressOf", fn := fun _ => fun
  | [d] => { results := [.lit (.bool false)], args := [d] }
  | _ => none }
def FnExactAddressOfWrongFalsely : Prop := fnExactAddressOfRow.holds Tryd.pinned (OpenSpec.ofChange fnExactAddressOfWrong)

/-- 'laws.FnAddressOf': WHATEVER THE INPUT: true; the input reads as it did. -/
def fnAddressOfSpec : ChangeSpec := { name := "fnAddressOf", fn := fun _ => fun
  | [d] => { results := [.lit (.bool true)], args := [d] }
  | _ => none }
def fnAddressOfRow : OpenClaim := { program := "ytjlgkepbflcefaadoor", sum := "c4c88cbae4d164abf3d5a27654287b7eec2689cc544e638c75f72ea62a8892e9", func := "loop.example/proxyframes/laws.FnAddressOf", spec := "fnAddressOf", inPlace := ["internal/bytealg.CountString", "internal/bytealg.IndexByteString", "internal/bytealg.IndexString"], unfollowed := true, recurses := true, named := ["unicode/utf8.first", "unicode/utf8.acceptRanges", "internal/bytealg.MaxLen"], apart := false, laid := [("unicode/utf8.acceptRanges", laid_unicode_utf8_acceptRanges), ("unicode/utf8.first", laid_unicode_utf8_first)] }
def FnAddressOfSaid : Prop := fnAddressOfRow.holds Tryd.pinned (OpenSpec.ofChange fnAddressOfSpec)

/-- ITS FALSE NEIGHBOUR: 'it returns false'. Refute it at one input. -/
def fnAddressOfWrong : ChangeSpec := { name := "fnAddressOf", fn := fun _ => fun
  | [d] => { results := [.lit (.bool false)], args := [d] }
  | _ => none }
def FnAddressOfWrongFalsely : Prop := fnAddressOfRow.holds Tryd.pinned (OpenSpec.ofChange fnAddressOfWrong)

/-- 'laws.FnOldBegin': WHATEVER THE INPUT: true; the input reads as it did. -/
def fnOldBeginSpec : ChangeSpec := { name := "fnOldBegin", fn := fun _ => fun
  | [d] => { results := [.lit (.bool true)], args := [d] }
  | _ => none }
def fnOldBeginRow : OpenClaim := { program := "ytjlgkepbflcefaadoor", sum := "c4c88cbae4d164abf3d5a27654287b7eec2689cc544e638c75f72ea62a8892e9", func := "loop.example/proxyframes/laws.FnOldBegin", spec := "fnOldBegin", inPlace := ["internal/bytealg.CountString", "internal/bytealg.IndexByteString", "internal/bytealg.IndexString"], unfollowed := true, recurses := true, named := ["unicode/utf8.first", "unicode/utf8.acceptRanges", "internal/bytealg.MaxLen"], apart := false, laid := [("unicode/utf8.acceptRanges", laid_unicode_utf8_acceptRanges), ("unicode/utf8.first", laid_unicode_utf8_first)] }
def FnOldBeginSaid : Prop := fnOldBeginRow.holds Tryd.pinned (OpenSpec.ofChange fnOldBeginSpec)

/-- ITS FALSE NEIGHBOUR: 'it returns false'. Refute it at one input. -/
def fnOldBeginWrong : ChangeSpec := { name := "fnOldBegin", fn := fun _ => fun
  | [d] => { results := [.lit (.bool false)], args := [d] }
  | _ => none }
def FnOldBeginWrongFalsely : Prop := fnOldBeginRow.holds Tryd.pinned (OpenSpec.ofChange fnOldBeginWrong)

/-- 'laws.FnOldQuad': WHATEVER THE INPUT: true; the input reads as it did. -/
def fnOldQuadSpec : ChangeSpec := { name := "fnOldQuad", fn := fun _ => fun
  | [d] => { results := [.lit (.bool true)], args := [d] }
  | _ => none }
def fnOldQuadRow : OpenClaim := { program := "ytjlgkepbflcefaadoor", sum := "c4c88cbae4d164abf3d5a27654287b7eec2689cc544e638c75f72ea62a8892e9", func := "loop.example/proxyframes/laws.FnOldQuad", spec := "fnOldQuad", inPlace := ["internal/bytealg.CountString", "internal/bytealg.IndexByteString", "internal/bytealg.IndexString"], unfollowed := true, recurses := true, named := ["unicode/utf8.first", "unicode/utf8.acceptRanges", "internal/bytealg.MaxLen"], apart := false, laid := [("unicode/utf8.acceptRanges", laid_unicode_utf8_acceptRanges), ("unicode/utf8.first", laid_unicode_utf8_first)] }
def FnOldQuadSaid : Prop := fnOldQuadRow.holds Tryd.pinned (OpenSpec.ofChange fnOldQuadSpec)

/-- ITS FALSE NEIGHBOUR: 'it returns false'. Refute it at one input. -/
def fnOldQuadWrong : ChangeSpec := { name := "fnOldQuad", fn := fun _ => fun
  | [d] => { results := [.lit (.bool false)], args := [d] }
  | _ => none }
def FnOldQuadWrongFalsely : Prop := fnOldQuadRow.holds Tryd.pinned (OpenSpec.ofChange fnOldQuadWrong)

/-- 'laws.FnOldSize': WHATEVER THE INPUT: true; the input reads as it did. -/
def fnOldSizeSpec : ChangeSpec := { name := "fnOldSize", fn := fun _ => fun
  | [d] => { results := [.lit (.bool true)], args := [d] }
  | _ => none }
def fnOldSizeRow : OpenClaim := { program := "ytjlgkepbflcefaadoor", sum := "c4c88cbae4d164abf3d5a27654287b7eec2689cc544e638c75f72ea62a8892e9", func := "loop.example/proxyframes/laws.FnOldSize", spec := "fnOldSize", inPlace := ["internal/bytealg.CountString", "internal/bytealg.IndexByteString", "internal/bytealg.IndexString"], unfollowed := true, recurses := true, named := ["unicode/utf8.first", "unicode/utf8.acceptRanges", "internal/bytealg.MaxLen"], apart := false, laid := [("unicode/utf8.acceptRanges", laid_unicode_utf8_acceptRanges), ("unicode/utf8.first", laid_unicode_utf8_first)] }
def FnOldSizeSaid : Prop := fnOldSizeRow.holds Tryd.pinned (OpenSpec.ofChange fnOldSizeSpec)

/-- ITS FALSE NEIGHBOUR: 'it returns false'. Refute it at one input. -/
def fnOldSizeWrong : ChangeSpec := { name := "fnOldSize", fn := fun _ => fun
  | [d] => { results := [.lit (.bool false)], args := [d] }
  | _ => none }
def FnOldSizeWrongFalsely : Prop := fnOldSizeRow.holds Tryd.pinned (OpenSpec.ofChange fnOldSizeWrong)

/-- 'laws.FnOldPort': WHATEVER THE INPUT: true; the input reads as it did. -/
def fnOldPortSpec : ChangeSpec := { name := "fnOldPort", fn := fun _ => fun
  | [d] => { results := [.lit (.bool true)], args := [d] }
  | _ => none }
def fnOldPortRow : OpenClaim := { program := "ytjlgkepbflcefaadoor", sum := "c4c88cbae4d164abf3d5a27654287b7eec2689cc544e638c75f72ea62a8892e9", func := "loop.example/proxyframes/laws.FnOldPort", spec := "fnOldPort", inPlace := ["internal/bytealg.CountString", "internal/bytealg.IndexByteString", "internal/bytealg.IndexString"], unfollowed := true, recurses := true, named := ["unicode/utf8.first", "unicode/utf8.acceptRanges", "internal/bytealg.MaxLen"], apart := false, laid := [("unicode/utf8.acceptRanges", laid_unicode_utf8_acceptRanges), ("unicode/utf8.first", laid_unicode_utf8_first)] }
def FnOldPortSaid : Prop := fnOldPortRow.holds Tryd.pinned (OpenSpec.ofChange fnOldPortSpec)

/-- ITS FALSE NEIGHBOUR: 'it returns false'. Refute it at one input. -/
def fnOldPortWrong : ChangeSpec := { name := "fnOldPort", fn := fun _ => fun
  | [d] => { results := [.lit (.bool false)], args := [d] }
  | _ => none }
def FnOldPortWrongFalsely : Prop := fnOldPortRow.holds Tryd.pinned (OpenSpec.ofChange fnOldPortWrong)

/-- 'laws.FnExactOldBytes': WHATEVER THE INPUT: true; the input reads as it did. -/
def fnExactOldBytesSpec : ChangeSpec := { name := "fnExactOldBytes", fn := fun _ => fun
  | [d] => { results := [.lit (.bool true)], args := [d] }
  | _ => none }
def fnExactOldBytesRow : OpenClaim := { program := "ytjlgkepbflcefaadoor", sum := "c4c88cbae4d164abf3d5a27654287b7eec2689cc544e638c75f72ea62a8892e9", func := "loop.example/proxyframes/laws.FnExactOldBytes", spec := "fnExactOldBytes", inPlace := ["internal/bytealg.CountString", "internal/bytealg.IndexByteString", "internal/bytealg.IndexString"], unfollowed := true, recurses := true, named := ["unicode/utf8.first", "unicode/utf8.acceptRanges", "internal/bytealg.MaxLen"], apart := false, laid := [("unicode/utf8.acceptRanges", laid_unicode_utf8_acceptRanges), ("unicode/utf8.first", laid_unicode_utf8_first)] }
def FnExactOldBytesSaid : Prop := fnExactOldBytesRow.holds Tryd.pinned (OpenSpec.ofChange fnExactOldBytesSpec)

/-- ITS FALSE NEIGHBOUR: 'it returns false'. Refute it at one input. -/
def fnExactOldBytesWrong : ChangeSpec := { name := "fnExactOldBytes", fn := fun _ => fun
  | [d] => { results := [.lit (.bool false)], args := [d] }
  | _ => none }
def FnExactOldBytesWrongFalsely : Prop := fnExactOldBytesRow.holds Tryd.pinned (OpenSpec.ofChange fnExactOldBytesWrong)

/-- 'laws.FnExactOldFrom': WHATEVER THE INPUT: true; the input reads as it did. -/
def fnExactOldFromSpec : ChangeSpec := { name := "fnExactOldFrom", fn := fun _ => fun
  | [d] => { results := [.lit (.bool true)], args := [d] }
  | _ => none }
def fnExactOldFromRow : OpenClaim := { program := "ytjlgkepbflcefaadoor", sum := "c4c88cbae4d164abf3d5a27654287b7eec2689cc544e638c75f72ea62a8892e9", func := "loop.example/proxyframes/laws.FnExactOldFrom", spec := "fnExactOldFrom", inPlace := ["internal/bytealg.CountString", "internal/bytealg.IndexByteString", "internal/bytealg.IndexString"], unfollowed := true, recurses := true, named := ["unicode/utf8.first", "unicode/utf8.acceptRanges", "internal/bytealg.MaxLen"], apart := false, laid := [("unicode/utf8.acceptRanges", laid_unicode_utf8_acceptRanges), ("unicode/utf8.first", laid_unicode_utf8_first)] }
def FnExactOldFromSaid : Prop := fnExactOldFromRow.holds Tryd.pinned (OpenSpec.ofChange fnExactOldFromSpec)

/-- ITS FALSE NEIGHBOUR: 'it returns false'. Refute it at one input. -/
def fnExactOldFromWrong : ChangeSpec := { name := "fnExactOldFrom", fn := fun _ => fun
  | [d] => { results := [.lit (.bool false)], args := [d] }
  | _ => none }
def FnExactOldFromWrongFalsely : Prop := fnExactOldFromRow.holds Tryd.pinned (OpenSpec.ofChange fnExactOldFromWrong)

/-- 'laws.FnOldCut': WHATEVER THE INPUT: true; the input reads as it did. -/
def fnOldCutSpec : ChangeSpec := { name := "fnOldCut", fn := fun _ => fun
  | [d1, d2] => { results := [.lit (.bool true)], args := [d1, d2] }
  | _ => none }
def fnOldCutRow : OpenClaim := { program := "ytjlgkepbflcefaadoor", sum := "c4c88cbae4d164abf3d5a27654287b7eec2689cc544e638c75f72ea62a8892e9", func := "loop.example/proxyframes/laws.FnOldCut", spec := "fnOldCut", inPlace := ["internal/bytealg.CountString", "internal/bytealg.IndexByteString", "internal/bytealg.IndexString"], unfollowed := true, recurses := true, named := ["unicode/utf8.first", "unicode/utf8.acceptRanges", "internal/bytealg.MaxLen"], apart := false, laid := [("unicode/utf8.acceptRanges", laid_unicode_utf8_acceptRanges), ("unicode/utf8.first", laid_unicode_utf8_first)] }
def FnOldCutSaid : Prop := fnOldCutRow.holds Tryd.pinned (OpenSpec.ofChange fnOldCutSpec)

/-- ITS FALSE NEIGHBOUR: 'it returns false'. Refute it at one input. -/
def fnOldCutWrong : ChangeSpec := { name := "fnOldCut", fn := fun _ => fun
  | [d1, d2] => { results := [.lit (.bool false)], args := [d1, d2] }
  | _ => none }
def FnOldCutWrongFalsely : Prop := fnOldCutRow.holds Tryd.pinned (OpenSpec.ofChange fnOldCutWrong)

/-- 'laws.FnOld': WHATEVER THE INPUT: true; the input reads as it did. -/
def fnOldSpec : ChangeSpec := { name := "fnOld", fn := fun _ => fun
  | [d] => { results := [.lit (.bool true)], args := [d] }
  | _ => none }
def fnOldRow : OpenClaim := { program := "ytjlgkepbflcefaadoor", sum := "c4c88cbae4d164abf3d5a27654287b7eec2689cc544e638c75f72ea62a8892e9", func := "loop.example/proxyframes/laws.FnOld", spec := "fnOld", inPlace := ["internal/bytealg.CountString", "internal/bytealg.IndexByteString", "internal/bytealg.IndexString"], unfollowed := true, recurses := true, named := ["unicode/utf8.first", "unicode/utf8.acceptRanges", "internal/bytealg.MaxLen"], apart := false, laid := [("unicode/utf8.acceptRanges", laid_unicode_utf8_acceptRanges), ("unicode/utf8.first", laid_unicode_utf8_first)] }
def FnOldSaid : Prop := fnOldRow.holds Tryd.pinned (OpenSpec.ofChange fnOldSpec)

/-- ITS FALSE NEIGHBOUR: 'it returns false'. Refute it at one input. -/
def fnOldWrong : ChangeSpec := { name := "fnOld", fn := fun _ => fun
  | [d] => { results := [.lit (.bool false)], args := [d] }
  | _ => none }
def FnOldWrongFalsely : Prop := fnOldRow.holds Tryd.pinned (OpenSpec.ofChange fnOldWrong)

/-- 'laws.FnOldBehind': WHATEVER THE INPUT: true; the input reads as it did. -/
def fnOldBehindSpec : ChangeSpec := { name := "fnOldBehind", fn := fun _ => fun
  | [d1, d2] => { results := [.lit (.bool true)], args := [d1, d2] }
  | _ => none }
def fnOldBehindRow : OpenClaim := { program := "ytjlgkepbflcefaadoor", sum := "c4c88cbae4d164abf3d5a27654287b7eec2689cc544e638c75f72ea62a8892e9", func := "loop.example/proxyframes/laws.FnOldBehind", spec := "fnOldBehind", inPlace := ["internal/bytealg.CountString", "internal/bytealg.IndexByteString", "internal/bytealg.IndexString"], unfollowed := true, recurses := true, named := ["unicode/utf8.first", "unicode/utf8.acceptRanges", "internal/bytealg.MaxLen"], apart := false, laid := [("unicode/utf8.acceptRanges", laid_unicode_utf8_acceptRanges), ("unicode/utf8.first", laid_unicode_utf8_first)] }
def FnOldBehindSaid : Prop := fnOldBehindRow.holds Tryd.pinned (OpenSpec.ofChange fnOldBehindSpec)

/-- ITS FALSE NEIGHBOUR: 'it returns false'. Refute it at one input. -/
def fnOldBehindWrong : ChangeSpec := { name := "fnOldBehind", fn := fun _ => fun
  | [d1, d2] => { results := [.lit (.bool false)], args := [d1, d2] }
  | _ => none }
def FnOldBehindWrongFalsely : Prop := fnOldBehindRow.holds Tryd.pinned (OpenSpec.ofChange fnOldBehindWrong)

/-- 'laws.FnOldFrom': WHATEVER THE INPUT: true; the input reads as it did. -/
def fnOldFromSpec : ChangeSpec := { name := "fnOldFrom", fn := fun _ => fun
  | [d] => { results := [.lit (.bool true)], args := [d] }
  | _ => none }
def fnOldFromRow : OpenClaim := { program := "ytjlgkepbflcefaadoor", sum := "c4c88cbae4d164abf3d5a27654287b7eec2689cc544e638c75f72ea62a8892e9", func := "loop.example/proxyframes/laws.FnOldFrom", spec := "fnOldFrom", inPlace := ["internal/bytealg.CountString", "internal/bytealg.IndexByteString", "internal/bytealg.IndexString"], unfollowed := true, recurses := true, named := ["unicode/utf8.first", "unicode/utf8.acceptRanges", "internal/bytealg.MaxLen"], apart := false, laid := [("unicode/utf8.acceptRanges", laid_unicode_utf8_acceptRanges), ("unicode/utf8.first", laid_unicode_utf8_first)] }
def FnOldFromSaid : Prop := fnOldFromRow.holds Tryd.pinned (OpenSpec.ofChange fnOldFromSpec)

/-- ITS FALSE NEIGHBOUR: 'it returns false'. Refute it at one input. -/
def fnOldFromWrong : ChangeSpec := { name := "fnOldFrom", fn := fun _ => fun
  | [d] => { results := [.lit (.bool false)], args := [d] }
  | _ => none }
def FnOldFromWrongFalsely : Prop := fnOldFromRow.holds Tryd.pinned (OpenSpec.ofChange fnOldFromWrong)

/- THE SECOND FORM. 'bulk': how many values and letters a reading holds, each counted each time it is reached (what is shared counts as often as it is met; a slice's spare places count too). A statement '..UptoSaid' is the law's where the arguments, and the package variables that the reading takes, are together of bulk at most 1048576: NARROWER than '..Said'. Prove '..Said' where nothing that the law and all that it calls make is longer than what came in: it says more and counts as full. Else prove '..UptoSaid'. A law counts once. -/
mutual
def uptoBulk {H : Type} : DataW H → Nat
  | .lit (.string bytes) => bytes.length + 1
  | .lit _ => 1
  | .nil => 1
  | .ptr d => uptoBulk d + 1
  | .slice elems spare => uptoBulkAll elems + uptoBulkAll spare + 1
  | .agg parts => uptoBulkAll parts + 1
  | .iface _ d => uptoBulk d + 1
  | .map entries => uptoBulkEntries entries + 1
  | .held _ => 1
def uptoBulkAll {H : Type} : List (DataW H) → Nat
  | [] => 0
  | d :: r => uptoBulk d + uptoBulkAll r
def uptoBulkEntries {H : Type} : List (Lit × DataW H) → Nat
  | [] => 0
  | x :: r => uptoBulkEntry x + uptoBulkEntries r
def uptoBulkEntry {H : Type} : Lit × DataW H → Nat
  | (.string bytes, d) => bytes.length + uptoBulk d + 1
  | (_, d) => uptoBulk d + 1
 end
def uptoSmall : (H : Type) → List (DataW H) → Bool := fun _ ds => decide (uptoBulkAll ds ≤ 1048576)
def OpenSpec.upto (s : _root_.Go.ChangeSpec) : _root_.Go.OpenSpec := { _root_.Go.OpenSpec.ofChange s with cond := some uptoSmall }

/-- 'laws.FnExactAddressOf', WHERE WHAT IT READS IS OF BULK AT MOST 1048576: true; the input reads as it did. -/
def fnExactAddressOfUptoRow : OpenClaim := { program := "ytjlgkepbflcefaadoor", sum := "c4c88cbae4d164abf3d5a27654287b7eec2689cc544e638c75f72ea62a8892e9", func := "loop.example/proxyframes/laws.FnExactAddressOf", spec := "fnExactAddressOf", inPlace := ["internal/bytealg.CountString", "internal/bytealg.IndexByteString", "internal/bytealg.IndexString"], unfollowed := true, recurses := true, named := ["unicode/utf8.first", "unicode/utf8.acceptRanges", "internal/bytealg.MaxLen"], apart := false, laid := [("unicode/utf8.acceptRanges", laid_unicode_utf8_acceptRanges), ("unicode/utf8.first", laid_unicode_utf8_first)], narrowed := true }
def FnExactAddressOfUptoSaid : Prop := fnExactAddressOfUptoRow.holds Tryd.pinned (OpenSpec.upto fnExactAddressOfSpec)

/-- 'laws.FnAddressOf', WHERE WHAT IT READS IS OF BULK AT MOST 1048576: true; the input reads as it did. -/
def fnAddressOfUptoRow : OpenClaim := { program := "ytjlgkepbflcefaadoor", sum := "c4c88cbae4d164abf3d5a27654287b7eec2689cc544e638c75f72ea62a8892e9", func := "loop.example/proxyframes/laws.FnAddressOf", spec := "fnAddressOf", inPlace := ["internal/bytealg.CountString", "internal/bytealg.IndexByteString", "internal/bytealg.IndexString"], unfollowed := true, recurses := true, named := ["unicode/utf8.first", "unicode/utf8.acceptRanges", "internal/bytealg.MaxLen"], apart := false, laid := [("unicode/utf8.acceptRanges", laid_unicode_utf8_acceptRanges), ("unicode/utf8.first", laid_unicode_utf8_first)], narrowed := true }
def FnAddressOfUptoSaid : Prop := fnAddressOfUptoRow.holds Tryd.pinned (OpenSpec.upto fnAddressOfSpec)

/-- 'laws.FnOldBegin', WHERE WHAT IT READS IS OF BULK AT MOST 1048576: true; the input reads as it did. -/
def fnOldBeginUptoRow : OpenClaim := { program := "ytjlgkepbflcefaadoor", sum := "c4c88cbae4d164abf3d5a27654287b7eec2689cc544e638c75f72ea62a8892e9", func := "loop.example/proxyframes/laws.FnOldBegin", spec := "fnOldBegin", inPlace := ["internal/bytealg.CountString", "internal/bytealg.IndexByteString", "internal/bytealg.IndexString"], unfollowed := true, recurses := true, named := ["unicode/utf8.first", "unicode/utf8.acceptRanges", "internal/bytealg.MaxLen"], apart := false, laid := [("unicode/utf8.acceptRanges", laid_unicode_utf8_acceptRanges), ("unicode/utf8.first", laid_unicode_utf8_first)], narrowed := true }
def FnOldBeginUptoSaid : Prop := fnOldBeginUptoRow.holds Tryd.pinned (OpenSpec.upto fnOldBeginSpec)

/-- 'laws.FnOldQuad', WHERE WHAT IT READS IS OF BULK AT MOST 1048576: true; the input reads as it did. -/
def fnOldQuadUptoRow : OpenClaim := { program := "ytjlgkepbflcefaadoor", sum := "c4c88cbae4d164abf3d5a27654287b7eec2689cc544e638c75f72ea62a8892e9", func := "loop.example/proxyframes/laws.FnOldQuad", spec := "fnOldQuad", inPlace := ["internal/bytealg.CountString", "internal/bytealg.IndexByteString", "internal/bytealg.IndexString"], unfollowed := true, recurses := true, named := ["unicode/utf8.first", "unicode/utf8.acceptRanges", "internal/bytealg.MaxLen"], apart := false, laid := [("unicode/utf8.acceptRanges", laid_unicode_utf8_acceptRanges), ("unicode/utf8.first", laid_unicode_utf8_first)], narrowed := true }
def FnOldQuadUptoSaid : Prop := fnOldQuadUptoRow.holds Tryd.pinned (OpenSpec.upto fnOldQuadSpec)

/-- 'laws.FnOldSize', WHERE WHAT IT READS IS OF BULK AT MOST 1048576: true; the input reads as it did. -/
def fnOldSizeUptoRow : OpenClaim := { program := "ytjlgkepbflcefaadoor", sum := "c4c88cbae4d164abf3d5a27654287b7eec2689cc544e638c75f72ea62a8892e9", func := "loop.example/proxyframes/laws.FnOldSize", spec := "fnOldSize", inPlace := ["internal/bytealg.CountString", "internal/bytealg.IndexByteString", "internal/bytealg.IndexString"], unfollowed := true, recurses := true, named := ["unicode/utf8.first", "unicode/utf8.acceptRanges", "internal/bytealg.MaxLen"], apart := false, laid := [("unicode/utf8.acceptRanges", laid_unicode_utf8_acceptRanges), ("unicode/utf8.first", laid_unicode_utf8_first)], narrowed := true }
def FnOldSizeUptoSaid : Prop := fnOldSizeUptoRow.holds Tryd.pinned (OpenSpec.upto fnOldSizeSpec)

/-- 'laws.FnOldPort', WHERE WHAT IT READS IS OF BULK AT MOST 1048576: true; the input reads as it did. -/
def fnOldPortUptoRow : OpenClaim := { program := "ytjlgkepbflcefaadoor", sum := "c4c88cbae4d164abf3d5a27654287b7eec2689cc544e638c75f72ea62a8892e9", func := "loop.example/proxyframes/laws.FnOldPort", spec := "fnOldPort", inPlace := ["internal/bytealg.CountString", "internal/bytealg.IndexByteString", "internal/bytealg.IndexString"], unfollowed := true, recurses := true, named := ["unicode/utf8.first", "unicode/utf8.acceptRanges", "internal/bytealg.MaxLen"], apart := false, laid := [("unicode/utf8.acceptRanges", laid_unicode_utf8_acceptRanges), ("unicode/utf8.first", laid_unicode_utf8_first)], narrowed := true }
def FnOldPortUptoSaid : Prop := fnOldPortUptoRow.holds Tryd.pinned (OpenSpec.upto fnOldPortSpec)

/-- 'laws.FnExactOldBytes', WHERE WHAT IT READS IS OF BULK AT MOST 1048576: true; the input reads as it did. -/
def fnExactOldBytesUptoRow : OpenClaim := { program := "ytjlgkepbflcefaadoor", sum := "c4c88cbae4d164abf3d5a27654287b7eec2689cc544e638c75f72ea62a8892e9", func := "loop.example/proxyframes/laws.FnExactOldBytes", spec := "fnExactOldBytes", inPlace := ["internal/bytealg.CountString", "internal/bytealg.IndexByteString", "internal/bytealg.IndexString"], unfollowed := true, recurses := true, named := ["unicode/utf8.first", "unicode/utf8.acceptRanges", "internal/bytealg.MaxLen"], apart := false, laid := [("unicode/utf8.acceptRanges", laid_unicode_utf8_acceptRanges), ("unicode/utf8.first", laid_unicode_utf8_first)], narrowed := true }
def FnExactOldBytesUptoSaid : Prop := fnExactOldBytesUptoRow.holds Tryd.pinned (OpenSpec.upto fnExactOldBytesSpec)

/-- 'laws.FnExactOldFrom', WHERE WHAT IT READS IS OF BULK AT MOST 1048576: true; the input reads as it did. -/
def fnExactOldFromUptoRow : OpenClaim := { program := "ytjlgkepbflcefaadoor", sum := "c4c88cbae4d164abf3d5a27654287b7eec2689cc544e638c75f72ea62a8892e9", func := "loop.example/proxyframes/laws.FnExactOldFrom", spec := "fnExactOldFrom", inPlace := ["internal/bytealg.CountString", "internal/bytealg.IndexByteString", "internal/bytealg.IndexString"], unfollowed := true, recurses := true, named := ["unicode/utf8.first", "unicode/utf8.acceptRanges", "internal/bytealg.MaxLen"], apart := false, laid := [("unicode/utf8.acceptRanges", laid_unicode_utf8_acceptRanges), ("unicode/utf8.first", laid_unicode_utf8_first)], narrowed := true }
def FnExactOldFromUptoSaid : Prop := fnExactOldFromUptoRow.holds Tryd.pinned (OpenSpec.upto fnExactOldFromSpec)

/-- 'laws.FnOldCut', WHERE WHAT IT READS IS OF BULK AT MOST 1048576: true; the input reads as it did. -/
def fnOldCutUptoRow : OpenClaim := { program := "ytjlgkepbflcefaadoor", sum := "c4c88cbae4d164abf3d5a27654287b7eec2689cc544e638c75f72ea62a8892e9", func := "loop.example/proxyframes/laws.FnOldCut", spec := "fnOldCut", inPlace := ["internal/bytealg.CountString", "internal/bytealg.IndexByteString", "internal/bytealg.IndexString"], unfollowed := true, recurses := true, named := ["unicode/utf8.first", "unicode/utf8.acceptRanges", "internal/bytealg.MaxLen"], apart := false, laid := [("unicode/utf8.acceptRanges", laid_unicode_utf8_acceptRanges), ("unicode/utf8.first", laid_unicode_utf8_first)], narrowed := true }
def FnOldCutUptoSaid : Prop := fnOldCutUptoRow.holds Tryd.pinned (OpenSpec.upto fnOldCutSpec)

/-- 'laws.FnOld', WHERE WHAT IT READS IS OF BULK AT MOST 1048576: true; the input reads as it did. -/
def fnOldUptoRow : OpenClaim := { program := "ytjlgkepbflcefaadoor", sum := "c4c88cbae4d164abf3d5a27654287b7eec2689cc544e638c75f72ea62a8892e9", func := "loop.example/proxyframes/laws.FnOld", spec := "fnOld", inPlace := ["internal/bytealg.CountString", "internal/bytealg.IndexByteString", "internal/bytealg.IndexString"], unfollowed := true, recurses := true, named := ["unicode/utf8.first", "unicode/utf8.acceptRanges", "internal/bytealg.MaxLen"], apart := false, laid := [("unicode/utf8.acceptRanges", laid_unicode_utf8_acceptRanges), ("unicode/utf8.first", laid_unicode_utf8_first)], narrowed := true }
def FnOldUptoSaid : Prop := fnOldUptoRow.holds Tryd.pinned (OpenSpec.upto fnOldSpec)

/-- 'laws.FnOldBehind', WHERE WHAT IT READS IS OF BULK AT MOST 1048576: true; the input reads as it did. -/
def fnOldBehindUptoRow : OpenClaim := { program := "ytjlgkepbflcefaadoor", sum := "c4c88cbae4d164abf3d5a27654287b7eec2689cc544e638c75f72ea62a8892e9", func := "loop.example/proxyframes/laws.FnOldBehind", spec := "fnOldBehind", inPlace := ["internal/bytealg.CountString", "internal/bytealg.IndexByteString", "internal/bytealg.IndexString"], unfollowed := true, recurses := true, named := ["unicode/utf8.first", "unicode/utf8.acceptRanges", "internal/bytealg.MaxLen"], apart := false, laid := [("unicode/utf8.acceptRanges", laid_unicode_utf8_acceptRanges), ("unicode/utf8.first", laid_unicode_utf8_first)], narrowed := true }
def FnOldBehindUptoSaid : Prop := fnOldBehindUptoRow.holds Tryd.pinned (OpenSpec.upto fnOldBehindSpec)

/-- 'laws.FnOldFrom', WHERE WHAT IT READS IS OF BULK AT MOST 1048576: true; the input reads as it did. -/
def fnOldFromUptoRow : OpenClaim := { program := "ytjlgkepbflcefaadoor", sum := "c4c88cbae4d164abf3d5a27654287b7eec2689cc544e638c75f72ea62a8892e9", func := "loop.example/proxyframes/laws.FnOldFrom", spec := "fnOldFrom", inPlace := ["internal/bytealg.CountString", "internal/bytealg.IndexByteString", "internal/bytealg.IndexString"], unfollowed := true, recurses := true, named := ["unicode/utf8.first", "unicode/utf8.acceptRanges", "internal/bytealg.MaxLen"], apart := false, laid := [("unicode/utf8.acceptRanges", laid_unicode_utf8_acceptRanges), ("unicode/utf8.first", laid_unicode_utf8_first)], narrowed := true }
def FnOldFromUptoSaid : Prop := fnOldFromUptoRow.holds Tryd.pinned (OpenSpec.upto fnOldFromSpec)

end Rows
end Go.Proofs.YtjlgkepbflcefaaDoor
