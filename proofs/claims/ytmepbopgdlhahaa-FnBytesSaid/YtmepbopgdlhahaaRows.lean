/-
  No cell of these rows narrows 'for every input' (looked for: loops, veiled, ifaces, maps, wideKeys, modest, calm, conditions, laid).
  DERIVED. THE GIVEN ROWS OF THIS SEAT. 12 by the template 'for every input the law returns true; each argument reads behind the call as it read before'; 0 by the template 'total and deterministic' (their statements: YtmepbopgdlhahaaTotals.lean).
  GIVEN WITH THE SEED: the statements are not yours to turn. If you find one false, say at which input.
  Laid BY PROGRAM, IN A SANDBOX (cutbox-rows.mjs): the forced cells as the released guide's own fill.sh prints them over the translation 1fbbf531bc3c2ed5… (all of the seat's roots in one cut). By AI agents, Wed Nov 11 2026. No macro, syntax, notation, axiom, sorry.
-/
import Derived.Test.YtmepbopgdlhahaaChecked
import GoSem.Claim
import GoSem.ClaimJoined
import GoSem.ClaimMapViews
import Derived.JoinedTies
import Derived.KernelRfl
namespace Go.Proofs.Ytmepbopgdlhahaa
/- THE CELL 'sum', in the pinned program and in every row, IS THE sha256 OF THE DUMP (.gsa) THAT YtmepbopgdlhahaaProg.lean LOADS. Nothing in Lean hashes anything: it is a label: what it is worth is what the hold of that sum in a sandbox is worth. -/
noncomputable def Try.pinned : Pinned := { name := "ytmepbopgdlhahaa", sum := "1fbbf531bc3c2ed5c8cc890b5bc965959c4f7c3a0f70882a316799f9b6480866", checked := Try.checked }
namespace Rows
def none {H : Type} : Left H := { results := [], args := [] }

/-- 'laws.FnExactConstants': WHATEVER THE INPUT: true; the input reads as it did. -/
def fnExactConstantsSpec : ChangeSpec := { name := "fnExactConstants", fn := fun _ => fun
  | [] => { results := [.lit (.bool true)], args := [] }
  | _ => none }
def fnExactConstantsRow : OpenClaim := { program := "ytmepbopgdlhahaa", sum := "1fbbf531bc3c2ed5c8cc890b5bc965959c4f7c3a0f70882a316799f9b6480866", func := "loop.example/proxyframes/laws.FnExactConstants", spec := "fnExactConstants", apart := false }
def FnExactConstantsSaid : Prop := fnExactConstantsRow.holds Try.pinned (OpenSpec.ofChange fnExactConstantsSpec)

/-- ITS FALSE NEIGHBOUR: 'it returns false'. Refute it at one input. -/
def fnExactConstantsWrong : ChangeSpec := { name := "fnExactConstants", fn := fun _ => fun
  | [] => { results := [.lit (.bool false)], args := [] }
  | _ => none }
def FnExactConstantsWrongFalsely : Prop := fnExactConstantsRow.holds Try.pinned (OpenSpec.ofChange fnExactConstantsWrong)

/-- 'laws.FnExactUserValid': WHATEVER THE INPUT: true; the input reads as it did. -/
def fnExactUserValidSpec : ChangeSpec := { name := "fnExactUserValid", fn := fun _ => fun
  | [d] => { results := [.lit (.bool true)], args := [d] }
  | _ => none }
def fnExactUserValidRow : OpenClaim := { program := "ytmepbopgdlhahaa", sum := "1fbbf531bc3c2ed5c8cc890b5bc965959c4f7c3a0f70882a316799f9b6480866", func := "loop.example/proxyframes/laws.FnExactUserValid", spec := "fnExactUserValid", inPlace := ["internal/bytealg.IndexByteString"], apart := false }
def FnExactUserValidSaid : Prop := fnExactUserValidRow.holds Try.pinned (OpenSpec.ofChange fnExactUserValidSpec)

/-- ITS FALSE NEIGHBOUR: 'it returns false'. Refute it at one input. -/
def fnExactUserValidWrong : ChangeSpec := { name := "fnExactUserValid", fn := fun _ => fun
  | [d] => { results := [.lit (.bool false)], args := [d] }
  | _ => none }
def FnExactUserValidWrongFalsely : Prop := fnExactUserValidRow.holds Try.pinned (OpenSpec.ofChange fnExactUserValidWrong)

/-- 'laws.FnExactOldReply': WHATEVER THE INPUT: true; the input reads as it did. -/
def fnExactOldReplySpec : ChangeSpec := { name := "fnExactOldReply", fn := fun _ => fun
  | [d] => { results := [.lit (.bool true)], args := [d] }
  | _ => none }
def fnExactOldReplyRow : OpenClaim := { program := "ytmepbopgdlhahaa", sum := "1fbbf531bc3c2ed5c8cc890b5bc965959c4f7c3a0f70882a316799f9b6480866", func := "loop.example/proxyframes/laws.FnExactOldReply", spec := "fnExactOldReply", apart := false }
def FnExactOldReplySaid : Prop := fnExactOldReplyRow.holds Try.pinned (OpenSpec.ofChange fnExactOldReplySpec)

/-- ITS FALSE NEIGHBOUR: 'it returns false'. Refute it at one input. -/
def fnExactOldReplyWrong : ChangeSpec := { name := "fnExactOldReply", fn := fun _ => fun
  | [d] => { results := [.lit (.bool false)], args := [d] }
  | _ => none }
def FnExactOldReplyWrongFalsely : Prop := fnExactOldReplyRow.holds Try.pinned (OpenSpec.ofChange fnExactOldReplyWrong)

/-- 'laws.FnExactPickBytes': WHATEVER THE INPUT: true; the input reads as it did. -/
def fnExactPickBytesSpec : ChangeSpec := { name := "fnExactPickBytes", fn := fun _ => fun
  | [d] => { results := [.lit (.bool true)], args := [d] }
  | _ => none }
def fnExactPickBytesRow : OpenClaim := { program := "ytmepbopgdlhahaa", sum := "1fbbf531bc3c2ed5c8cc890b5bc965959c4f7c3a0f70882a316799f9b6480866", func := "loop.example/proxyframes/laws.FnExactPickBytes", spec := "fnExactPickBytes", apart := false }
def FnExactPickBytesSaid : Prop := fnExactPickBytesRow.holds Try.pinned (OpenSpec.ofChange fnExactPickBytesSpec)

/-- ITS FALSE NEIGHBOUR: 'it returns false'. Refute it at one input. -/
def fnExactPickBytesWrong : ChangeSpec := { name := "fnExactPickBytes", fn := fun _ => fun
  | [d] => { results := [.lit (.bool false)], args := [d] }
  | _ => none }
def FnExactPickBytesWrongFalsely : Prop := fnExactPickBytesRow.holds Try.pinned (OpenSpec.ofChange fnExactPickBytesWrong)

/-- 'laws.FnExactBytesValid': WHATEVER THE INPUT: true; the input reads as it did. -/
def fnExactBytesValidSpec : ChangeSpec := { name := "fnExactBytesValid", fn := fun _ => fun
  | [d] => { results := [.lit (.bool true)], args := [d] }
  | _ => none }
def fnExactBytesValidRow : OpenClaim := { program := "ytmepbopgdlhahaa", sum := "1fbbf531bc3c2ed5c8cc890b5bc965959c4f7c3a0f70882a316799f9b6480866", func := "loop.example/proxyframes/laws.FnExactBytesValid", spec := "fnExactBytesValid", unfollowed := true, recurses := true, apart := false }
def FnExactBytesValidSaid : Prop := fnExactBytesValidRow.holds Try.pinned (OpenSpec.ofChange fnExactBytesValidSpec)

/-- ITS FALSE NEIGHBOUR: 'it returns false'. Refute it at one input. -/
def fnExactBytesValidWrong : ChangeSpec := { name := "fnExactBytesValid", fn := fun _ => fun
  | [d] => { results := [.lit (.bool false)], args := [d] }
  | _ => none }
def FnExactBytesValidWrongFalsely : Prop := fnExactBytesValidRow.holds Try.pinned (OpenSpec.ofChange fnExactBytesValidWrong)

/-- 'laws.FnOldReply': WHATEVER THE INPUT: true; the input reads as it did. -/
def fnOldReplySpec : ChangeSpec := { name := "fnOldReply", fn := fun _ => fun
  | [d] => { results := [.lit (.bool true)], args := [d] }
  | _ => none }
def fnOldReplyRow : OpenClaim := { program := "ytmepbopgdlhahaa", sum := "1fbbf531bc3c2ed5c8cc890b5bc965959c4f7c3a0f70882a316799f9b6480866", func := "loop.example/proxyframes/laws.FnOldReply", spec := "fnOldReply", apart := false }
def FnOldReplySaid : Prop := fnOldReplyRow.holds Try.pinned (OpenSpec.ofChange fnOldReplySpec)

/-- ITS FALSE NEIGHBOUR: 'it returns false'. Refute it at one input. -/
def fnOldReplyWrong : ChangeSpec := { name := "fnOldReply", fn := fun _ => fun
  | [d] => { results := [.lit (.bool false)], args := [d] }
  | _ => none }
def FnOldReplyWrongFalsely : Prop := fnOldReplyRow.holds Try.pinned (OpenSpec.ofChange fnOldReplyWrong)

/-- 'laws.FnExactQuadValid': WHATEVER THE INPUT: true; the input reads as it did. -/
def fnExactQuadValidSpec : ChangeSpec := { name := "fnExactQuadValid", fn := fun _ => fun
  | [d] => { results := [.lit (.bool true)], args := [d] }
  | _ => none }
def fnExactQuadValidRow : OpenClaim := { program := "ytmepbopgdlhahaa", sum := "1fbbf531bc3c2ed5c8cc890b5bc965959c4f7c3a0f70882a316799f9b6480866", func := "loop.example/proxyframes/laws.FnExactQuadValid", spec := "fnExactQuadValid", unfollowed := true, recurses := true, apart := false }
def FnExactQuadValidSaid : Prop := fnExactQuadValidRow.holds Try.pinned (OpenSpec.ofChange fnExactQuadValidSpec)

/-- ITS FALSE NEIGHBOUR: 'it returns false'. Refute it at one input. -/
def fnExactQuadValidWrong : ChangeSpec := { name := "fnExactQuadValid", fn := fun _ => fun
  | [d] => { results := [.lit (.bool false)], args := [d] }
  | _ => none }
def FnExactQuadValidWrongFalsely : Prop := fnExactQuadValidRow.holds Try.pinned (OpenSpec.ofChange fnExactQuadValidWrong)

/-- 'laws.FnUser': WHATEVER THE INPUT: true; the input reads as it did. -/
def fnUserSpec : ChangeSpec := { name := "fnUser", fn := fun _ => fun
  | [d1, d2] => { results := [.lit (.bool true)], args := [d1, d2] }
  | _ => none }
def fnUserRow : OpenClaim := { program := "ytmepbopgdlhahaa", sum := "1fbbf531bc3c2ed5c8cc890b5bc965959c4f7c3a0f70882a316799f9b6480866", func := "loop.example/proxyframes/laws.FnUser", spec := "fnUser", inPlace := ["internal/bytealg.IndexByteString"], apart := false }
def FnUserSaid : Prop := fnUserRow.holds Try.pinned (OpenSpec.ofChange fnUserSpec)

/-- ITS FALSE NEIGHBOUR: 'it returns false'. Refute it at one input. -/
def fnUserWrong : ChangeSpec := { name := "fnUser", fn := fun _ => fun
  | [d1, d2] => { results := [.lit (.bool false)], args := [d1, d2] }
  | _ => none }
def FnUserWrongFalsely : Prop := fnUserRow.holds Try.pinned (OpenSpec.ofChange fnUserWrong)

/-- 'laws.FnBytes': WHATEVER THE INPUT: true; the input reads as it did. -/
def fnBytesSpec : ChangeSpec := { name := "fnBytes", fn := fun _ => fun
  | [d] => { results := [.lit (.bool true)], args := [d] }
  | _ => none }
def fnBytesRow : OpenClaim := { program := "ytmepbopgdlhahaa", sum := "1fbbf531bc3c2ed5c8cc890b5bc965959c4f7c3a0f70882a316799f9b6480866", func := "loop.example/proxyframes/laws.FnBytes", spec := "fnBytes", unfollowed := true, recurses := true, apart := false }
def FnBytesSaid : Prop := fnBytesRow.holds Try.pinned (OpenSpec.ofChange fnBytesSpec)

/-- ITS FALSE NEIGHBOUR: 'it returns false'. Refute it at one input. -/
def fnBytesWrong : ChangeSpec := { name := "fnBytes", fn := fun _ => fun
  | [d] => { results := [.lit (.bool false)], args := [d] }
  | _ => none }
def FnBytesWrongFalsely : Prop := fnBytesRow.holds Try.pinned (OpenSpec.ofChange fnBytesWrong)

/-- 'laws.FnQuadPart': WHATEVER THE INPUT: true; the input reads as it did. -/
def fnQuadPartSpec : ChangeSpec := { name := "fnQuadPart", fn := fun _ => fun
  | [d] => { results := [.lit (.bool true)], args := [d] }
  | _ => none }
def fnQuadPartRow : OpenClaim := { program := "ytmepbopgdlhahaa", sum := "1fbbf531bc3c2ed5c8cc890b5bc965959c4f7c3a0f70882a316799f9b6480866", func := "loop.example/proxyframes/laws.FnQuadPart", spec := "fnQuadPart", unfollowed := true, recurses := true, apart := false }
def FnQuadPartSaid : Prop := fnQuadPartRow.holds Try.pinned (OpenSpec.ofChange fnQuadPartSpec)

/-- ITS FALSE NEIGHBOUR: 'it returns false'. Refute it at one input. -/
def fnQuadPartWrong : ChangeSpec := { name := "fnQuadPart", fn := fun _ => fun
  | [d] => { results := [.lit (.bool false)], args := [d] }
  | _ => none }
def FnQuadPartWrongFalsely : Prop := fnQuadPartRow.holds Try.pinned (OpenSpec.ofChange fnQuadPartWrong)

/-- 'laws.FnExactTextBytes': WHATEVER THE INPUT: true; the input reads as it did. -/
def fnExactTextBytesSpec : ChangeSpec := { name := "fnExactTextBytes", fn := fun _ => fun
  | [d] => { results := [.lit (.bool true)], args := [d] }
  | _ => none }
def fnExactTextBytesRow : OpenClaim := { program := "ytmepbopgdlhahaa", sum := "1fbbf531bc3c2ed5c8cc890b5bc965959c4f7c3a0f70882a316799f9b6480866", func := "loop.example/proxyframes/laws.FnExactTextBytes", spec := "fnExactTextBytes", apart := false }
def FnExactTextBytesSaid : Prop := fnExactTextBytesRow.holds Try.pinned (OpenSpec.ofChange fnExactTextBytesSpec)

/-- ITS FALSE NEIGHBOUR: 'it returns false'. Refute it at one input. -/
def fnExactTextBytesWrong : ChangeSpec := { name := "fnExactTextBytes", fn := fun _ => fun
  | [d] => { results := [.lit (.bool false)], args := [d] }
  | _ => none }
def FnExactTextBytesWrongFalsely : Prop := fnExactTextBytesRow.holds Try.pinned (OpenSpec.ofChange fnExactTextBytesWrong)

/-- 'laws.FnExactNumberBytes': WHATEVER THE INPUT: true; the input reads as it did. -/
def fnExactNumberBytesSpec : ChangeSpec := { name := "fnExactNumberBytes", fn := fun _ => fun
  | [d1, d2] => { results := [.lit (.bool true)], args := [d1, d2] }
  | _ => none }
def fnExactNumberBytesRow : OpenClaim := { program := "ytmepbopgdlhahaa", sum := "1fbbf531bc3c2ed5c8cc890b5bc965959c4f7c3a0f70882a316799f9b6480866", func := "loop.example/proxyframes/laws.FnExactNumberBytes", spec := "fnExactNumberBytes", apart := false }
def FnExactNumberBytesSaid : Prop := fnExactNumberBytesRow.holds Try.pinned (OpenSpec.ofChange fnExactNumberBytesSpec)

/-- ITS FALSE NEIGHBOUR: 'it returns false'. Refute it at one input. -/
def fnExactNumberBytesWrong : ChangeSpec := { name := "fnExactNumberBytes", fn := fun _ => fun
  | [d1, d2] => { results := [.lit (.bool false)], args := [d1, d2] }
  | _ => none }
def FnExactNumberBytesWrongFalsely : Prop := fnExactNumberBytesRow.holds Try.pinned (OpenSpec.ofChange fnExactNumberBytesWrong)

/- THE SECOND FORM. 'bulk': how many values and letters a reading holds, each counted each time it is reached (what is shared counts as often as it is met; a slice's spare places count too). A statement '..UptoSaid' is the law's where the arguments, and the package variables that the reading takes, are together of bulk at most 1048576: NARROWER than '..Said'. Prove '..Said' where nothing that the law and all that it calls make is longer than what came in: it says more and counts as full. Else prove '..UptoSaid'. A law counts once. -/
mutual
def uptoBulk {H : Type} : DataW H → Nat
  | .lit (.string bytes) => bytes.length + 1
  | .lit _ => 1
  | .nil => 1
  | .ptr d => uptoBulk d + 1
  | .slice elems spare => uptoBulkAll elems + uptoBulkAll spare + 1
  | .agg parts => uptoBulkAll parts + 1
  | .iface _ d => uptoBulk d + 1
  | .map entries => uptoBulkEntries entries + 1
  | .held _ => 1
def uptoBulkAll {H : Type} : List (DataW H) → Nat
  | [] => 0
  | d :: r => uptoBulk d + uptoBulkAll r
def uptoBulkEntries {H : Type} : List (Lit × DataW H) → Nat
  | [] => 0
  | x :: r => uptoBulkEntry x + uptoBulkEntries r
def uptoBulkEntry {H : Type} : Lit × DataW H → Nat
  | (.string bytes, d) => bytes.length + uptoBulk d + 1
  | (_, d) => uptoBulk d + 1
 end
def uptoSmall : (H : Type) → List (DataW H) → Bool := fun _ ds => decide (uptoBulkAll ds ≤ 1048576)
def OpenSpec.upto (s : _root_.Go.ChangeSpec) : _root_.Go.OpenSpec := { _root_.Go.OpenSpec.ofChange s with cond := some uptoSmall }

/-- 'laws.FnExactConstants', WHERE WHAT IT READS IS OF BULK AT MOST 1048576: true; the input reads as it did. -/
def fnExactConstantsUptoRow : OpenClaim := { program := "ytmepbopgdlhahaa", sum := "1fbbf531bc3c2ed5c8cc890b5bc965959c4f7c3a0f70882a316799f9b6480866", func := "loop.example/proxyframes/laws.FnExactConstants", spec := "fnExactConstants", apart := false, narrowed := true }
def FnExactConstantsUptoSaid : Prop := fnExactConstantsUptoRow.holds Try.pinned (OpenSpec.upto fnExactConstantsSpec)

/-- 'laws.FnExactUserValid', WHERE WHAT IT READS IS OF BULK AT MOST 1048576: true; the input reads as it did. -/
def fnExactUserValidUptoRow : OpenClaim := { program := "ytmepbopgdlhahaa", sum := "1fbbf531bc3c2ed5c8cc890b5bc965959c4f7c3a0f70882a316799f9b6480866", func := "loop.example/proxyframes/laws.FnExactUserValid", spec := "fnExactUserValid", inPlace := ["internal/bytealg.IndexByteString"], apart := false, narrowed := true }
def FnExactUserValidUptoSaid : Prop := fnExactUserValidUptoRow.holds Try.pinned (OpenSpec.upto fnExactUserValidSpec)

/-- 'laws.FnExactOldReply', WHERE WHAT IT READS IS OF BULK AT MOST 1048576: true; the input reads as it did. -/
def fnExactOldReplyUptoRow : OpenClaim := { program := "ytmepbopgdlhahaa", sum := "1fbbf531bc3c2ed5c8cc890b5bc965959c4f7c3a0f70882a316799f9b6480866", func := "loop.example/proxyframes/laws.FnExactOldReply", spec := "fnExactOldReply", apart := false, narrowed := true }
def FnExactOldReplyUptoSaid : Prop := fnExactOldReplyUptoRow.holds Try.pinned (OpenSpec.upto fnExactOldReplySpec)

/-- 'laws.FnExactPickBytes', WHERE WHAT IT READS IS OF BULK AT MOST 1048576: true; the input reads as it did. -/
def fnExactPickBytesUptoRow : OpenClaim := { program := "ytmepbopgdlhahaa", sum := "1fbbf531bc3c2ed5c8cc890b5bc965959c4f7c3a0f70882a316799f9b6480866", func := "loop.example/proxyframes/laws.FnExactPickBytes", spec := "fnExactPickBytes", apart := false, narrowed := true }
def FnExactPickBytesUptoSaid : Prop := fnExactPickBytesUptoRow.holds Try.pinned (OpenSpec.upto fnExactPickBytesSpec)

/-- 'laws.FnExactBytesValid', WHERE WHAT IT READS IS OF BULK AT MOST 1048576: true; the input reads as it did. -/
def fnExactBytesValidUptoRow : OpenClaim := { program := "ytmepbopgdlhahaa", sum := "1fbbf531bc3c2ed5c8cc890b5bc965959c4f7c3a0f70882a316799f9b6480866", func := "loop.example/proxyframes/laws.FnExactBytesValid", spec := "fnExactBytesValid", unfollowed := true, recurses := true, apart := false, narrowed := true }
def FnExactBytesValidUptoSaid : Prop := fnExactBytesValidUptoRow.holds Try.pinned (OpenSpec.upto fnExactBytesValidSpec)

/-- 'laws.FnOldReply', WHERE WHAT IT READS IS OF BULK AT MOST 1048576: true; the input reads as it did. -/
def fnOldReplyUptoRow : OpenClaim := { program := "ytmepbopgdlhahaa", sum := "1fbbf531bc3c2ed5c8cc890b5bc965959c4f7c3a0f70882a316799f9b6480866", func := "loop.example/proxyframes/laws.FnOldReply", spec := "fnOldReply", apart := false, narrowed := true }
def FnOldReplyUptoSaid : Prop := fnOldReplyUptoRow.holds Try.pinned (OpenSpec.upto fnOldReplySpec)

/-- 'laws.FnExactQuadValid', WHERE WHAT IT READS IS OF BULK AT MOST 1048576: true; the input reads as it did. -/
def fnExactQuadValidUptoRow : OpenClaim := { program := "ytmepbopgdlhahaa", sum := "1fbbf531bc3c2ed5c8cc890b5bc965959c4f7c3a0f70882a316799f9b6480866", func := "loop.example/proxyframes/laws.FnExactQuadValid", spec := "fnExactQuadValid", unfollowed := true, recurses := true, apart := false, narrowed := true }
def FnExactQuadValidUptoSaid : Prop := fnExactQuadValidUptoRow.holds Try.pinned (OpenSpec.upto fnExactQuadValidSpec)

/-- 'laws.FnUser', WHERE WHAT IT READS IS OF BULK AT MOST 1048576: true; the input reads as it did. -/
def fnUserUptoRow : OpenClaim := { program := "ytmepbopgdlhahaa", sum := "1fbbf531bc3c2ed5c8cc890b5bc965959c4f7c3a0f70882a316799f9b6480866", func := "loop.example/proxyframes/laws.FnUser", spec := "fnUser", inPlace := ["internal/bytealg.IndexByteString"], apart := false, narrowed := true }
def FnUserUptoSaid : Prop := fnUserUptoRow.holds Try.pinned (OpenSpec.upto fnUserSpec)

/-- 'laws.FnBytes', WHERE WHAT IT READS IS OF BULK AT MOST 1048576: true; the input reads as it did. -/
def fnBytesUptoRow : OpenClaim := { program := "ytmepbopgdlhahaa", sum := "1fbbf531bc3c2ed5c8cc890b5bc965959c4f7c3a0f70882a316799f9b6480866", func := "loop.example/proxyframes/laws.FnBytes", spec := "fnBytes", unfollowed := true, recurses := true, apart := false, narrowed := true }
def FnBytesUptoSaid : Prop := fnBytesUptoRow.holds Try.pinned (OpenSpec.upto fnBytesSpec)

/-- 'laws.FnQuadPart', WHERE WHAT IT READS IS OF BULK AT MOST 1048576: true; the input reads as it did. -/
def fnQuadPartUptoRow : OpenClaim := { program := "ytmepbopgdlhahaa", sum := "1fbbf531bc3c2ed5c8cc890b5bc965959c4f7c3a0f70882a316799f9b6480866", func := "loop.example/proxyframes/laws.FnQuadPart", spec := "fnQuadPart", unfollowed := true, recurses := true, apart := false, narrowed := true }
def FnQuadPartUptoSaid : Prop := fnQuadPartUptoRow.holds Try.pinned (OpenSpec.upto fnQuadPartSpec)

/-- 'laws.FnExactTextBytes', WHERE WHAT IT READS IS OF BULK AT MOST 1048576: true; the input reads as it did. -/
def fnExactTextBytesUptoRow : OpenClaim := { program := "ytmepbopgdlhahaa", sum := "1fbbf531bc3c2ed5c8cc890b5bc965959c4f7c3a0f70882a316799f9b6480866", func := "loop.example/proxyframes/laws.FnExactTextBytes", spec := "fnExactTextBytes", apart := false, narrowed := true }
def FnExactTextBytesUptoSaid : Prop := fnExactTextBytesUptoRow.holds Try.pinned (OpenSpec.upto fnExactTextBytesSpec)

/-- 'laws.FnExactNumberBytes', WHERE WHAT IT READS IS OF BULK AT MOST 1048576: true; the input reads as it did. -/
def fnExactNumberBytesUptoRow : OpenClaim := { program := "ytmepbopgdlhahaa", sum := "1fbbf531bc3c2ed5c8cc890b5bc965959c4f7c3a0f70882a316799f9b6480866", func := "loop.example/proxyframes/laws.FnExactNumberBytes", spec := "fnExactNumberBytes", apart := false, narrowed := true }
def FnExactNumberBytesUptoSaid : Prop := fnExactNumberBytesUptoRow.holds Try.pinned (OpenSpec.upto fnExactNumberBytesSpec)

end Rows
end Go.Proofs.Ytmepbopgdlhahaa
