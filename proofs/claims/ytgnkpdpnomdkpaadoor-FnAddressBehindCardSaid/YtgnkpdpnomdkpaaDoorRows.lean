/-
  NARROWER THAN 'FOR EVERY INPUT', by the rows' own cells (each row's printed sentence says how): FnAddressSize: laid · FnAddressKinds: laid · FnExactAddressBytes: laid · FnExactAddressOf: laid · FnAddressCut: laid · FnAddressBehind: laid · FnAddressBytes: laid · FnAddressOf: laid · FnOldBegin: laid · FnOldQuad: laid · FnOldSize: laid · FnOldPort: laid.
  DERIVED. THE GIVEN ROWS OF THIS SEAT. 12 by the template 'for every input the law returns true; each argument reads behind the call as it read before'; 0 by the template 'total and deterministic' (their statements: YtgnkpdpnomdkpaaDoorTotals.lean).
  GIVEN WITH THE SEED: the statements are not yours to turn. If you find one false, say at which input.
  Laid BY PROGRAM, IN A SANDBOX (cutbox-rows.mjs): the forced cells as the released guide's own fill.sh prints them over the translation 3e4770454aad8823… (all of the seat's roots in one cut). By AI agents, Wed Nov 11 2026. No macro, syntax, notation, axiom, sorry.
-/
import Derived.Test.YtgnkpdpnomdkpaaDoorChecked
import GoSem.PinnedTables
import GoSem.Claim
import GoSem.ClaimJoined
import GoSem.ClaimMapViews
import Derived.JoinedTies
import Derived.KernelRfl
namespace Go.Proofs.YtgnkpdpnomdkpaaDoor
/- THE CELL 'sum', in the pinned program and in every row, IS THE sha256 OF THE DUMP (.gsa) THAT YtgnkpdpnomdkpaaDoorProg.lean LOADS. Nothing in Lean hashes anything: it is a label: what it is worth is what the hold of that sum in a sandbox is worth. -/
noncomputable def Tryd.pinned : Pinned := { name := "ytgnkpdpnomdkpaadoor", sum := "3e4770454aad88232412ad5d7dfa7efa341a8f68f292014d0dc362d4e8e5d4c0", checked := Tryd.checked }
namespace Rows
def none {H : Type} : Left H := { results := [], args := [] }

/- WHAT THE LISTED PACKAGE-LEVEL VARIABLES READ AS WHEN THE CALL BEGINS. Each datum BY PROGRAM (the guide's laid-datum.mjs) off the statement by which the dump's own 'gosem.cut.vars' lays the variable. In a bare row this is a premise. The card (YtgnkpdpnomdkpaaDoorCards.lean) ties it to the program's text. -/
def laid_unicode_utf8_acceptRanges {H : Type} : DataW H := .agg [.agg [.lit (.int .u8 128), .lit (.int .u8 191)], .agg [.lit (.int .u8 160), .lit (.int .u8 191)], .agg [.lit (.int .u8 128), .lit (.int .u8 159)], .agg [.lit (.int .u8 144), .lit (.int .u8 191)], .agg [.lit (.int .u8 128), .lit (.int .u8 143)], .agg [.lit (.int .u8 0), .lit (.int .u8 0)], .agg [.lit (.int .u8 0), .lit (.int .u8 0)], .agg [.lit (.int .u8 0), .lit (.int .u8 0)], .agg [.lit (.int .u8 0), .lit (.int .u8 0)], .agg [.lit (.int .u8 0), .lit (.int .u8 0)], .agg [.lit (.int .u8 0), .lit (.int .u8 0)], .agg [.lit (.int .u8 0), .lit (.int .u8 0)], .agg [.lit (.int .u8 0), .lit (.int .u8 0)], .agg [.lit (.int .u8 0), .lit (.int .u8 0)], .agg [.lit (.int .u8 0), .lit (.int .u8 0)], .agg [.lit (.int .u8 0), .lit (.int .u8 0)]]
/-- One of Go's own tables, pinned by name: the form's constant. -/
def laid_unicode_utf8_first : DataW Unit := Go.Pinned.utf8First

/-- 'laws.FnAddressSize': WHATEVER THE INPUT: true; the input reads as it did. -/
def fnAddressSizeSpec : ChangeSpec := { name := "fnAddressSize", fn := fun _ => fun
  | [d] => { results := [.lit (.bool true)], args := [d] }
  | _ => none }
def fnAddressSizeRow : OpenClaim := { program := "ytgnkpdpnomdkpaadoor", sum := "3e4770454aad88232412ad5d7dfa7efa341a8f68f292014d0dc362d4e8e5d4c0", func := "loop.example/proxyframes/laws.FnAddressSize", spec := "fnAddressSize", inPlace := ["internal/bytealg.CountString", "internal/bytealg.IndexByteString", "internal/bytealg.IndexString"], unfollowed := true, recurses := true, named := ["unicode/utf8.first", "unicode/utf8.acceptRanges", "internal/bytealg.MaxLen"], apart := false, laid := [("unicode/utf8.acceptRanges", laid_unicode_utf8_acceptRanges), ("unicode/utf8.first", laid_unicode_utf8_first)] }
def FnAddressSizeSaid : Prop := fnAddressSizeRow.holds Tryd.pinned (OpenSpec.ofChange fnAddressSizeSpec)

/-- ITS FALSE NEIGHBOUR: 'it returns false'. Refute it at one input. -/
def fnAddressSizeWrong : ChangeSpec := { name := "fnAddressSize", fn := fun _ => fun
  | [d] => { results := [.lit (.bool false)], args := [d] }
  | _ => none }
def FnAddressSizeWrongFalsely : Prop := fnAddressSizeRow.holds Tryd.pinned (OpenSpec.ofChange fnAddressSizeWrong)

/-- 'laws.FnAddressKinds': WHATEVER THE INPUT: true; the input reads as it did. -/
def fnAddressKindsSpec : ChangeSpec := { name := "fnAddressKinds", fn := fun _ => fun
  | [d] => { results := [.lit (.bool true)], args := [d] }
  | _ => none }
def fnAddressKindsRow : OpenClaim := { program := "ytgnkpdpnomdkpaadoor", sum := "3e4770454aad88232412ad5d7dfa7efa341a8f68f292014d0dc362d4e8e5d4c0", func := "loop.example/proxyframes/laws.FnAddressKinds", spec := "fnAddressKinds", inPlace := ["internal/bytealg.CountString", "internal/bytealg.IndexByteString", "internal/bytealg.IndexString"], unfollowed := true, recurses := true, named := ["unicode/utf8.first", "unicode/utf8.acceptRanges", "internal/bytealg.MaxLen"], apart := false, laid := [("unicode/utf8.acceptRanges", laid_unicode_utf8_acceptRanges), ("unicode/utf8.first", laid_unicode_utf8_first)] }
def FnAddressKindsSaid : Prop := fnAddressKindsRow.holds Tryd.pinned (OpenSpec.ofChange fnAddressKindsSpec)

/-- ITS FALSE NEIGHBOUR: 'it returns false'. Refute it at one input. -/
def fnAddressKindsWrong : ChangeSpec := { name := "fnAddressKinds", fn := fun _ => fun
  | [d] => { results := [.lit (.bool false)], args := [d] }
  | _ => none }
def FnAddressKindsWrongFalsely : Prop := fnAddressKindsRow.holds Tryd.pinned (OpenSpec.ofChange fnAddressKindsWrong)

/-- 'laws.FnExactAddressBytes': WHATEVER THE INPUT: true; the input reads as it did. -/
def fnExactAddressBytesSpec : ChangeSpec := { name := "fnExactAddressBytes", fn := fun _ => fun
  | [d] => { results := [.lit (.bool true)], args := [d] }
  | _ => none }
def fnExactAddressBytesRow : OpenClaim := { program := "ytgnkpdpnomdkpaadoor", sum := "3e4770454aad88232412ad5d7dfa7efa341a8f68f292014d0dc362d4e8e5d4c0", func := "loop.example/proxyframes/laws.FnExactAddressBytes", spec := "fnExactAddressBytes", inPlace := ["internal/bytealg.CountString", "internal/bytealg.IndexByteString", "internal/bytealg.IndexString"], unfollowed := true, recurses := true, named := ["unicode/utf8.first", "unicode/utf8.acceptRanges", "internal/bytealg.MaxLen"], apart := false, laid := [("unicode/utf8.acceptRanges", laid_unicode_utf8_acceptRanges), ("unicode/utf8.first", laid_unicode_utf8_first)] }
def FnExactAddressBytesSaid : Prop := fnExactAddressBytesRow.holds Tryd.pinned (OpenSpec.ofChange fnExactAddressBytesSpec)

/-- ITS FALSE NEIGHBOUR: 'it returns false'. Refute it at one input. -/
def fnExactAddressBytesWrong : ChangeSpec := { name := "fnExactAddressBytes", fn := fun _ => fun
  | [d] => { results := [.lit (.bool false)], args := [d] }
  | _ => none }
def FnExactAddressBytesWrongFalsely : Prop := fnExactAddressBytesRow.holds Tryd.pinned (OpenSpec.ofChange fnExactAddressBytesWrong)

/-- 'laws.FnExactAddressOf': WHATEVER THE INPUT: true; the input reads as it did. -/
def fnExactAddressOfSpec : ChangeSpec := { name := "fnExactAddressOf", fn := fun _ => fun
  | [d] => { results := [.lit (.bool true)], args := [d] }
  | _ => none }
def fnExactAddressOfRow : OpenClaim := { program := "ytgnkpdpnomdkpaadoor", sum := "3e4770454aad88232412ad5d7dfa7efa341a8f68f292014d0dc362d4e8e5d4c0", func := "loop.example/proxyframes/laws.FnExactAddressOf", spec := "fnExactAddressOf", inPlace := ["internal/bytealg.CountString", "internal/bytealg.IndexByteString", "internal/bytealg.IndexString"], unfollowed := true, recurses := true, named := ["unicode/utf8.first", "unicode/utf8.acceptRanges", "internal/bytealg.MaxLen"], apart := false, laid := [("unicode/utf8.acceptRanges", laid_unicode_utf8_acceptRanges), ("unicode/utf8.first", laid_unicode_utf8_first)] }
def FnExactAddressOfSaid : Prop := fnExactAddressOfRow.holds Tryd.pinned (OpenSpec.ofChange fnExactAddressOfSpec)

/-- ITS FALSE NEIGHBOUR: 'it returns false'. Refute it at one input. -/
def fnExactAddressOfWrong : ChangeSpec := { name := "fnExactAddressOf", fn := fun _ => fun
  | [d] => { results := [.lit (.bool false)], args := [d] }
  | _ => none }
def FnExactAddressOfWrongFalsely : Prop := fnExactAddressOfRow.holds Tryd.pinned (OpenSpec.ofChange fnExactAddressOfWrong)

/-- 'laws.FnAddressCut': WHATEVER THE INPUT: true; the input reads as it did. -/
def fnAddressCutSpec : ChangeSpec := { name := "fnAddressCut", fn := fun _ => fun
  | [d1, d2] => { results := [.lit (.bool true)], args := [d1, d2] }
  | _ => none }
def fnAddressCutRow : OpenClaim := { program := "ytgnkpdpnomdkpaadoor", sum := "3e4770454aad88232412ad5d7dfa7efa341a8f68f292014d0dc362d4e8e5d4c0", func := "loop.example/proxyframes/laws.FnAddressCut", spec := "fnAddressCut", inPlace := ["internal/bytealg.CountString", "internal/bytealg.IndexByteString", "internal/bytealg.IndexString"], unfollowed := true, recurses := true, named := ["unicode/utf8.first", "unicode/utf8.acceptRanges", "internal/bytealg.MaxLen"], apart := false, laid := [("unicode/utf8.acceptRanges", laid_unicode_utf8_acceptRanges), ("unicode/utf8.first", laid_unicode_utf8_first)] }
def FnAddressCutSaid : Prop := fnAddressCutRow.holds Tryd.pinned (OpenSpec.ofChange fnAddressCutSpec)

/-- ITS FALSE NEIGHBOUR: 'it returns false'. Refute it at one input. -/
def fnAddressCutWrong : ChangeSpec := { name := "fnAddressCut", fn := fun _ => fun
  | [d1, d2] => { results := [.lit (.bool false)], args := [d1, d2] }
  | _ => none }
def FnAddressCutWrongFalsely : Prop := fnAddressCutRow.holds Tryd.pinned (OpenSpec.ofChange fnAddressCutWrong)

/-- 'laws.FnAddressBehind': WHATEVER THE INPUT: true; the input reads as it did. -/
def fnAddressBehindSpec : ChangeSpec := { name := "fnAddressBehind", fn := fun _ => fun
  | [d1, d2] => { results := [.lit (.bool true)], args := [d1, d2] }
  | _ => none }
def fnAddressBehindRow : OpenClaim := { program := "ytgnkpdpnomdkpaadoor", sum := "3e4770454aad88232412ad5d7dfa7efa341a8f68f292014d0dc362d4e8e5d4c0", func := "loop.example/proxyframes/laws.FnAddressBehind", spec := "fnAddressBehind", inPlace := ["internal/bytealg.CountString", "internal/bytealg.IndexByteString", "internal/bytealg.IndexString"], unfollowed := true, recurses := true, named := ["unicode/utf8.first", "unicode/utf8.acceptRanges", "internal/bytealg.MaxLen"], apart := false, laid := [("unicode/utf8.acceptRanges", laid_unicode_utf8_acceptRanges), ("unicode/utf8.first", laid_unicode_utf8_first)] }
def FnAddressBehindSaid : Prop := fnAddressBehindRow.holds Tryd.pinned (OpenSpec.ofChange fnAddressBehindSpec)

/-- ITS FALSE NEIGHBOUR: 'it returns false'. Refute it at one input. -/
def fnAddressBehindWrong : ChangeSpec := { name := "fnAddressBehind", fn := fun _ => fun
  | [d1, d2] => { results := [.lit (.bool false)], args := [d1, d2] }
  | _ => none }
def FnAddressBehindWrongFalsely : Prop := fnAddressBehindRow.holds Tryd.pinned (OpenSpec.ofChange fnAddressBehindWrong)

/-- 'laws.FnAddressBytes': WHATEVER THE INPUT: true; the input reads as it did. -/
def fnAddressBytesSpec : ChangeSpec := { name := "fnAddressBytes", fn := fun _ => fun
  | [d] => { results := [.lit (.bool true)], args := [d] }
  | _ => none }
def fnAddressBytesRow : OpenClaim := { program := "ytgnkpdpnomdkpaadoor", sum := "3e4770454aad88232412ad5d7dfa7efa341a8f68f292014d0dc362d4e8e5d4c0", func := "loop.example/proxyframes/laws.FnAddressBytes", spec := "fnAddressBytes", inPlace := ["internal/bytealg.CountString", "internal/bytealg.IndexByteString", "internal/bytealg.IndexString"], unfollowed := true, recurses := true, named := ["unicode/utf8.first", "unicode/utf8.acceptRanges", "internal/bytealg.MaxLen"], apart := false, laid := [("unicode/utf8.acceptRanges", laid_unicode_utf8_acceptRanges), ("unicode/utf8.first", laid_unicode_utf8_first)] }
def FnAddressBytesSaid : Prop := fnAddressBytesRow.holds Tryd.pinned (OpenSpec.ofChange fnAddressBytesSpec)

/-- ITS FALSE NEIGHBOUR: 'it returns false'. Refute it at one input. -/
def fnAddressBytesWrong : ChangeSpec := { name := "fnAddressBytes", fn := fun _ => fun
  | [d] => { results := [.lit (.bool false)], args := [d] }
  | _ => none }
def FnAddressBytesWrongFalsely : Prop := fnAddressBytesRow.holds Tryd.pinned (OpenSpec.ofChange fnAddressBytesWrong)

/-- 'laws.FnAddressOf': WHATEVER THE INPUT: true; the input reads as it did. -/
def fnAddressOfSpec : ChangeSpec := { name := "fnAddressOf", fn := fun _ => fun
  | [d] => { results := [.lit (.bool true)], args := [d] }
  | _ => none }
def fnAddressOfRow : OpenClaim := { program := "ytgnkpdpnomdkpaadoor", sum := "3e4770454aad88232412ad5d7dfa7efa341a8f68f292014d0dc362d4e8e5d4c0", func := "loop.example/proxyframes/laws.FnAddressOf", spec := "fnAddressOf", inPlace := ["internal/bytealg.CountString", "internal/bytealg.IndexByteString", "internal/bytealg.IndexString"], unfollowed := true, recurses := true, named := ["unicode/utf8.first", "unicode/utf8.acceptRanges", "internal/bytealg.MaxLen"], apart := false, laid := [("unicode/utf8.acceptRanges", laid_unicode_utf8_acceptRanges), ("unicode/utf8.first", laid_unicode_utf8_first)] }
def FnAddressOfSaid : Prop := fnAddressOfRow.holds Tryd.pinned (OpenSpec.ofChange fnAddressOfSpec)

/-- ITS FALSE NEIGHBOUR: 'it returns false'. Refute it at one input. -/
def fnAddressOfWrong : ChangeSpec := { name := "fnAddressOf", fn := fun _ => fun
  | [d] => { results := [.lit (.bool false)], args := [d] }
  | _ => none }
def FnAddressOfWrongFalsely : Prop := fnAddressOfRow.holds Tryd.pinned (OpenSpec.ofChange fnAddressOfWrong)

/-- 'laws.FnOldBegin': WHATEVER THE INPUT: true; the input reads as it did. -/
def fnOldBeginSpec : ChangeSpec := { name := "fnOldBegin", fn := fun _ => fun
  | [d] => { results := [.lit (.bool true)], args := [d] }
  | _ => none }
def fnOldBeginRow : OpenClaim := { program := "ytgnkpdpnomdkpaadoor", sum := "3e4770454aad88232412ad5d7dfa7efa341a8f68f292014d0dc362d4e8e5d4c0", func := "loop.example/proxyframes/laws.FnOldBegin", spec := "fnOldBegin", inPlace := ["internal/bytealg.CountString", "internal/bytealg.IndexByteString", "internal/bytealg.IndexString"], unfollowed := true, recurses := true, named := ["unicode/utf8.first", "unicode/utf8.acceptRanges", "internal/bytealg.MaxLen"], apart := false, laid := [("unicode/utf8.acceptRanges", laid_unicode_utf8_acceptRanges), ("unicode/utf8.first", laid_unicode_utf8_first)] }
def FnOldBeginSaid : Prop := fnOldBeginRow.holds Tryd.pinned (OpenSpec.ofChange fnOldBeginSpec)

/-- ITS FALSE NEIGHBOUR: 'it returns false'. Refute it at one input. -/
def fnOldBeginWrong : ChangeSpec := { name := "fnOldBegin", fn := fun _ => fun
  | [d] => { results := [.lit (.bool false)], args := [d] }
  | _ => none }
def FnOldBeginWrongFalsely : Prop := fnOldBeginRow.holds Tryd.pinned (OpenSpec.ofChange fnOldBeginWrong)

/-- 'laws.FnOldQuad': WHATEVER THE INPUT: true; the input reads as it did. -/
def fnOldQuadSpec : ChangeSpec := { name := "fnOldQuad", fn := fun _ => fun
  | [d] => { results := [.lit (.bool true)], args := [d] }
  | _ => none }
def fnOldQuadRow : OpenClaim := { program := "ytgnkpdpnomdkpaadoor", sum := "3e4770454aad88232412ad5d7dfa7efa341a8f68f292014d0dc362d4e8e5d4c0", func := "loop.example/proxyframes/laws.FnOldQuad", spec := "fnOldQuad", inPlace := ["internal/bytealg.CountString", "internal/bytealg.IndexByteString", "internal/bytealg.IndexString"], unfollowed := true, recurses := true, named := ["unicode/utf8.first", "unicode/utf8.acceptRanges", "internal/bytealg.MaxLen"], apart := false, laid := [("unicode/utf8.acceptRanges", laid_unicode_utf8_acceptRanges), ("unicode/utf8.first", laid_unicode_utf8_first)] }
def FnOldQuadSaid : Prop := fnOldQuadRow.holds Tryd.pinned (OpenSpec.ofChange fnOldQuadSpec)

/-- ITS FALSE NEIGHBOUR: 'it returns false'. Refute it at one input. -/
def fnOldQuadWrong : ChangeSpec := { name := "fnOldQuad", fn := fun _ => fun
  | [d] => { results := [.lit (.bool false)], args := [d] }
  | _ => none }
def FnOldQuadWrongFalsely : Prop := fnOldQuadRow.holds Tryd.pinned (OpenSpec.ofChange fnOldQuadWrong)

/-- 'laws.FnOldSize': WHATEVER THE INPUT: true; the input reads as it did. -/
def fnOldSizeSpec : ChangeSpec := { name := "fnOldSize", fn := fun _ => fun
  | [d] => { results := [.lit (.bool true)], args := [d] }
  | _ => none }
def fnOldSizeRow : OpenClaim := { program := "ytgnkpdpnomdkpaadoor", sum := "3e4770454aad88232412ad5d7dfa7efa341a8f68f292014d0dc362d4e8e5d4c0", func := "loop.example/proxyframes/laws.FnOldSize", spec := "fnOldSize", inPlace := ["internal/bytealg.CountString", "internal/bytealg.IndexByteString", "internal/bytealg.IndexString"], unfollowed := true, recurses := true, named := ["unicode/utf8.first", "unicode/utf8.acceptRanges", "internal/bytealg.MaxLen"], apart := false, laid := [("unicode/utf8.acceptRanges", laid_unicode_utf8_acceptRanges), ("unicode/utf8.first", laid_unicode_utf8_first)] }
def FnOldSizeSaid : Prop := fnOldSizeRow.holds Tryd.pinned (OpenSpec.ofChange fnOldSizeSpec)

/-- ITS FALSE NEIGHBOUR: 'it returns false'. Refute it at one input. -/
def fnOldSizeWrong : ChangeSpec := { name := "fnOldSize", fn := fun _ => fun
  | [d] => { results := [.lit (.bool false)], args := [d] }
  | _ => none }
def FnOldSizeWrongFalsely : Prop := fnOldSizeRow.holds Tryd.pinned (OpenSpec.ofChange fnOldSizeWrong)

/-- 'laws.FnOldPort': WHATEVER THE INPUT: true; the input reads as it did. -/
def fnOldPortSpec : ChangeSpec := { name := "fnOldPort", fn := fun _ => fun
  | [d] => { results := [.lit (.bool true)], args := [d] }
  | _ => none }
def fnOldPortRow : OpenClaim := { program := "ytgnkpdpnomdkpaadoor", sum := "3e4770454aad88232412ad5d7dfa7efa341a8f68f292014d0dc362d4e8e5d4c0", func := "loop.example/proxyframes/laws.FnOldPort", spec := "fnOldPort", inPlace := ["internal/bytealg.CountString", "internal/bytealg.IndexByteString", "internal/bytealg.IndexString"], unfollowed := true, recurses := true, named := ["unicode/utf8.first", "unicode/utf8.acceptRanges", "internal/bytealg.MaxLen"], apart := false, laid := [("unicode/utf8.acceptRanges", laid_unicode_utf8_acceptRanges), ("unicode/utf8.first", laid_unicode_utf8_first)] }
def FnOldPortSaid : Prop := fnOldPortRow.holds Tryd.pinned (OpenSpec.ofChange fnOldPortSpec)

/-- ITS FALSE NEIGHBOUR: 'it returns false'. Refute it at one input. -/
def fnOldPortWrong : ChangeSpec := { name := "fnOldPort", fn := fun _ => fun
  | [d] => { results := [.lit (.bool false)], args := [d] }
  | _ => none }
def FnOldPortWrongFalsely : Prop := fnOldPortRow.holds Tryd.pinned (OpenSpec.ofChange fnOldPortWrong)

/- THE SECOND FORM. 'bulk': how many values and letters a reading holds, each counted each time it is reached (what is shared counts as often as it is met; a slice's spare places count too). A statement '..UptoSaid' is the law's where the arguments, and the package variables that the reading takes, are together of bulk at most 1048576: NARROWER than '..Said'. Prove '..Said' where nothing that the law and all that it calls make is longer than what came in: it says more and counts as full. Else prove '..UptoSaid'. A law counts once. -/
mutual
def uptoBulk {H : Type} : DataW H → Nat
  | .lit (.string bytes) => bytes.length + 1
  | .lit _ => 1
  | .nil => 1
  | .ptr d => uptoBulk d + 1
  | .slice elems spare => uptoBulkAll elems + uptoBulkAll spare + 1
  | .agg parts => uptoBulkAll parts + 1
  | .iface _ d => uptoBulk d + 1
  | .map entries => uptoBulkEntries entries + 1
  | .held _ => 1
def uptoBulkAll {H : Type} : List (DataW H) → Nat
  | [] => 0
  | d :: r => uptoBulk d + uptoBulkAll r
def uptoBulkEntries {H : Type} : List (Lit × DataW H) → Nat
  | [] => 0
  | x :: r => uptoBulkEntry x + uptoBulkEntries r
def uptoBulkEntry {H : Type} : Lit × DataW H → Nat
  | (.string bytes, d) => bytes.length + uptoBulk d + 1
  | (_, d) => uptoBulk d + 1
 end
def uptoSmall : (H : Type) → List (DataW H) → Bool := fun _ ds => decide (uptoBulkAll ds ≤ 1048576)
def OpenSpec.upto (s : _root_.Go.ChangeSpec) : _root_.Go.OpenSpec := { _root_.Go.OpenSpec.ofChange s with cond := some uptoSmall }

/-- 'laws.FnAddressSize', WHERE WHAT IT READS IS OF BULK AT MOST 1048576: true; the input reads as it did. -/
def fnAddressSizeUptoRow : OpenClaim := { program := "ytgnkpdpnomdkpaadoor", sum := "3e4770454aad88232412ad5d7dfa7efa341a8f68f292014d0dc362d4e8e5d4c0", func := "loop.example/proxyframes/laws.FnAddressSize", spec := "fnAddressSize", inPlace := ["internal/bytealg.CountString", "internal/bytealg.IndexByteString", "internal/bytealg.IndexString"], unfollowed := true, recurses := true, named := ["unicode/utf8.first", "unicode/utf8.acceptRanges", "internal/bytealg.MaxLen"], apart := false, laid := [("unicode/utf8.acceptRanges", laid_unicode_utf8_acceptRanges), ("unicode/utf8.first", laid_unicode_utf8_first)], narrowed := true }
def FnAddressSizeUptoSaid : Prop := fnAddressSizeUptoRow.holds Tryd.pinned (OpenSpec.upto fnAddressSizeSpec)

/-- 'laws.FnAddressKinds', WHERE WHAT IT READS IS OF BULK AT MOST 1048576: true; the input reads as it did. -/
def fnAddressKindsUptoRow : OpenClaim := { program := "ytgnkpdpnomdkpaadoor", sum := "3e4770454aad88232412ad5d7dfa7efa341a8f68f292014d0dc362d4e8e5d4c0", func := "loop.example/proxyframes/laws.FnAddressKinds", spec := "fnAddressKinds", inPlace := ["internal/bytealg.CountString", "internal/bytealg.IndexByteString", "internal/bytealg.IndexString"], unfollowed := true, recurses := true, named := ["unicode/utf8.first", "unicode/utf8.acceptRanges", "internal/bytealg.MaxLen"], apart := false, laid := [("unicode/utf8.acceptRanges", laid_unicode_utf8_acceptRanges), ("unicode/utf8.first", laid_unicode_utf8_first)], narrowed := true }
def FnAddressKindsUptoSaid : Prop := fnAddressKindsUptoRow.holds Tryd.pinned (OpenSpec.upto fnAddressKindsSpec)

/-- 'laws.FnExactAddressBytes', WHERE WHAT IT READS IS OF BULK AT MOST 1048576: true; the input reads as it did. -/
def fnExactAddressBytesUptoRow : OpenClaim := { program := "ytgnkpdpnomdkpaadoor", sum := "3e4770454aad88232412ad5d7dfa7efa341a8f68f292014d0dc362d4e8e5d4c0", func := "loop.example/proxyframes/laws.FnExactAddressBytes", spec := "fnExactAddressBytes", inPlace := ["internal/bytealg.CountString", "internal/bytealg.IndexByteString", "internal/bytealg.IndexString"], unfollowed := true, recurses := true, named := ["unicode/utf8.first", "unicode/utf8.acceptRanges", "internal/bytealg.MaxLen"], apart := false, laid := [("unicode/utf8.acceptRanges", laid_unicode_utf8_acceptRanges), ("unicode/utf8.first", laid_unicode_utf8_first)], narrowed := true }
def FnExactAddressBytesUptoSaid : Prop := fnExactAddressBytesUptoRow.holds Tryd.pinned (OpenSpec.upto fnExactAddressBytesSpec)

/-- 'laws.FnExactAddressOf', WHERE WHAT IT READS IS OF BULK AT MOST 1048576: true; the input reads as it did. -/
def fnExactAddressOfUptoRow : OpenClaim := { program := "ytgnkpdpnomdkpaadoor", sum := "3e4770454aad88232412ad5d7dfa7efa341a8f68f292014d0dc362d4e8e5d4c0", func := "loop.example/proxyframes/laws.FnExactAddressOf", spec := "fnExactAddressOf", inPlace := ["internal/bytealg.CountString", "internal/bytealg.IndexByteString", "internal/bytealg.IndexString"], unfollowed := true, recurses := true, named := ["unicode/utf8.first", "unicode/utf8.acceptRanges", "internal/bytealg.MaxLen"], apart := false, laid := [("unicode/utf8.acceptRanges", laid_unicode_utf8_acceptRanges), ("unicode/utf8.first", laid_unicode_utf8_first)], narrowed := true }
def FnExactAddressOfUptoSaid : Prop := fnExactAddressOfUptoRow.holds Tryd.pinned (OpenSpec.upto fnExactAddressOfSpec)

/-- 'laws.FnAddressCut', WHERE WHAT IT READS IS OF BULK AT MOST 1048576: true; the input reads as it did. -/
def fnAddressCutUptoRow : OpenClaim := { program := "ytgnkpdpnomdkpaadoor", sum := "3e4770454aad88232412ad5d7dfa7efa341a8f68f292014d0dc362d4e8e5d4c0", func := "loop.example/proxyframes/laws.FnAddressCut", spec := "fnAddressCut", inPlace := ["internal/bytealg.CountString", "internal/bytealg.IndexByteString", "internal/bytealg.IndexString"], unfollowed := true, recurses := true, named := ["unicode/utf8.first", "unicode/utf8.acceptRanges", "internal/bytealg.MaxLen"], apart := false, laid := [("unicode/utf8.acceptRanges", laid_unicode_utf8_acceptRanges), ("unicode/utf8.first", laid_unicode_utf8_first)], narrowed := true }
def FnAddressCutUptoSaid : Prop := fnAddressCutUptoRow.holds Tryd.pinned (OpenSpec.upto fnAddressCutSpec)

/-- 'laws.FnAddressBehind', WHERE WHAT IT READS IS OF BULK AT MOST 1048576: true; the input reads as it did. -/
def fnAddressBehindUptoRow : OpenClaim := { program := "ytgnkpdpnomdkpaadoor", sum := "3e4770454aad88232412ad5d7dfa7efa341a8f68f292014d0dc362d4e8e5d4c0", func := "loop.example/proxyframes/laws.FnAddressBehind", spec := "fnAddressBehind", inPlace := ["internal/bytealg.CountString", "internal/bytealg.IndexByteString", "internal/bytealg.IndexString"], unfollowed := true, recurses := true, named := ["unicode/utf8.first", "unicode/utf8.acceptRanges", "internal/bytealg.MaxLen"], apart := false, laid := [("unicode/utf8.acceptRanges", laid_unicode_utf8_acceptRanges), ("unicode/utf8.first", laid_unicode_utf8_first)], narrowed := true }
def FnAddressBehindUptoSaid : Prop := fnAddressBehindUptoRow.holds Tryd.pinned (OpenSpec.upto fnAddressBehindSpec)

/-- 'laws.FnAddressBytes', WHERE WHAT IT READS IS OF BULK AT MOST 1048576: true; the input reads as it did. -/
def fnAddressBytesUptoRow : OpenClaim := { program := "ytgnkpdpnomdkpaadoor", sum := "3e4770454aad88232412ad5d7dfa7efa341a8f68f292014d0dc362d4e8e5d4c0", func := "loop.example/proxyframes/laws.FnAddressBytes", spec := "fnAddressBytes", inPlace := ["internal/bytealg.CountString", "internal/bytealg.IndexByteString", "internal/bytealg.IndexString"], unfollowed := true, recurses := true, named := ["unicode/utf8.first", "unicode/utf8.acceptRanges", "internal/bytealg.MaxLen"], apart := false, laid := [("unicode/utf8.acceptRanges", laid_unicode_utf8_acceptRanges), ("unicode/utf8.first", laid_unicode_utf8_first)], narrowed := true }
def FnAddressBytesUptoSaid : Prop := fnAddressBytesUptoRow.holds Tryd.pinned (OpenSpec.upto fnAddressBytesSpec)

/-- 'laws.FnAddressOf', WHERE WHAT IT READS IS OF BULK AT MOST 1048576: true; the input reads as it did. -/
def fnAddressOfUptoRow : OpenClaim := { program := "ytgnkpdpnomdkpaadoor", sum := "3e4770454aad88232412ad5d7dfa7efa341a8f68f292014d0dc362d4e8e5d4c0", func := "loop.example/proxyframes/laws.FnAddressOf", spec := "fnAddressOf", inPlace := ["internal/bytealg.CountString", "internal/bytealg.IndexByteString", "internal/bytealg.IndexString"], unfollowed := true, recurses := true, named := ["unicode/utf8.first", "unicode/utf8.acceptRanges", "internal/bytealg.MaxLen"], apart := false, laid := [("unicode/utf8.acceptRanges", laid_unicode_utf8_acceptRanges), ("unicode/utf8.first", laid_unicode_utf8_first)], narrowed := true }
def FnAddressOfUptoSaid : Prop := fnAddressOfUptoRow.holds Tryd.pinned (OpenSpec.upto fnAddressOfSpec)

/-- 'laws.FnOldBegin', WHERE WHAT IT READS IS OF BULK AT MOST 1048576: true; the input reads as it did. -/
def fnOldBeginUptoRow : OpenClaim := { program := "ytgnkpdpnomdkpaadoor", sum := "3e4770454aad88232412ad5d7dfa7efa341a8f68f292014d0dc362d4e8e5d4c0", func := "loop.example/proxyframes/laws.FnOldBegin", spec := "fnOldBegin", inPlace := ["internal/bytealg.CountString", "internal/bytealg.IndexByteString", "internal/bytealg.IndexString"], unfollowed := true, recurses := true, named := ["unicode/utf8.first", "unicode/utf8.acceptRanges", "internal/bytealg.MaxLen"], apart := false, laid := [("unicode/utf8.acceptRanges", laid_unicode_utf8_acceptRanges), ("unicode/utf8.first", laid_unicode_utf8_first)], narrowed := true }
def FnOldBeginUptoSaid : Prop := fnOldBeginUptoRow.holds Tryd.pinned (OpenSpec.upto fnOldBeginSpec)

/-- 'laws.FnOldQuad', WHERE WHAT IT READS IS OF BULK AT MOST 1048576: true; the input reads as it did. -/
def fnOldQuadUptoRow : OpenClaim := { program := "ytgnkpdpnomdkpaadoor", sum := "3e4770454aad88232412ad5d7dfa7efa341a8f68f292014d0dc362d4e8e5d4c0", func := "loop.example/proxyframes/laws.FnOldQuad", spec := "fnOldQuad", inPlace := ["internal/bytealg.CountString", "internal/bytealg.IndexByteString", "internal/bytealg.IndexString"], unfollowed := true, recurses := true, named := ["unicode/utf8.first", "unicode/utf8.acceptRanges", "internal/bytealg.MaxLen"], apart := false, laid := [("unicode/utf8.acceptRanges", laid_unicode_utf8_acceptRanges), ("unicode/utf8.first", laid_unicode_utf8_first)], narrowed := true }
def FnOldQuadUptoSaid : Prop := fnOldQuadUptoRow.holds Tryd.pinned (OpenSpec.upto fnOldQuadSpec)

/-- 'laws.FnOldSize', WHERE WHAT IT READS IS OF BULK AT MOST 1048576: true; the input reads as it did. -/
def fnOldSizeUptoRow : OpenClaim := { program := "ytgnkpdpnomdkpaadoor", sum := "3e4770454aad88232412ad5d7dfa7efa341a8f68f292014d0dc362d4e8e5d4c0", func := "loop.example/proxyframes/laws.FnOldSize", spec := "fnOldSize", inPlace := ["internal/bytealg.CountString", "internal/bytealg.IndexByteString", "internal/bytealg.IndexString"], unfollowed := true, recurses := true, named := ["unicode/utf8.first", "unicode/utf8.acceptRanges", "internal/bytealg.MaxLen"], apart := false, laid := [("unicode/utf8.acceptRanges", laid_unicode_utf8_acceptRanges), ("unicode/utf8.first", laid_unicode_utf8_first)], narrowed := true }
def FnOldSizeUptoSaid : Prop := fnOldSizeUptoRow.holds Tryd.pinned (OpenSpec.upto fnOldSizeSpec)

/-- 'laws.FnOldPort', WHERE WHAT IT READS IS OF BULK AT MOST 1048576: true; the input reads as it did. -/
def fnOldPortUptoRow : OpenClaim := { program := "ytgnkpdpnomdkpaadoor", sum := "3e4770454aad88232412ad5d7dfa7efa341a8f68f292014d0dc362d4e8e5d4c0", func := "loop.example/proxyframes/laws.FnOldPort", spec := "fnOldPort", inPlace := ["internal/bytealg.CountString", "internal/bytealg.IndexByteString", "internal/bytealg.IndexString"], unfollowed := true, recurses := true, named := ["unicode/utf8.first", "unicode/utf8.acceptRanges", "internal/bytealg.MaxLen"], apart := false, laid := [("unicode/utf8.acceptRanges", laid_unicode_utf8_acceptRanges), ("unicode/utf8.first", laid_unicode_utf8_first)], narrowed := true }
def FnOldPortUptoSaid : Prop := fnOldPortUptoRow.holds Tryd.pinned (OpenSpec.upto fnOldPortSpec)

end Rows
end Go.Proofs.YtgnkpdpnomdkpaaDoor
