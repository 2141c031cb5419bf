/-
  No cell of these rows narrows 'for every input' (looked for: loops, veiled, ifaces, maps, wideKeys, modest, calm, conditions, laid).
  DERIVED. THE GIVEN ROWS OF THIS SEAT. 12 by the template 'for every input the law returns true; each argument reads behind the call as it read before'; 0 by the template 'total and deterministic' (their statements: YtfhadfcdfeancaaTotals.lean).
  GIVEN WITH THE SEED: the statements are not yours to turn. If you find one false, say at which input.
  Laid BY PROGRAM, IN A SANDBOX (cutbox-rows.mjs): the forced cells as the released guide's own fill.sh prints them over the translation 9d2eea2a1cc9ae78… (all of the seat's roots in one cut). By AI agents, Wed Nov 11 2026. No macro, syntax, notation, axiom, sorry.
-/
import Derived.Test.YtfhadfcdfeancaaChecked
import GoSem.Claim
import GoSem.ClaimJoined
import GoSem.ClaimMapViews
import Derived.JoinedTies
import Derived.KernelRfl
namespace Go.Proofs.Ytfhadfcdfeancaa
/- THE CELL 'sum', in the pinned program and in every row, IS THE sha256 OF THE DUMP (.gsa) THAT YtfhadfcdfeancaaProg.lean LOADS. Nothing in Lean hashes anything: it is a label: what it is worth is what the hold of that sum in a sandbox is worth. -/
noncomputable def Try.pinned : Pinned := { name := "ytfhadfcdfeancaa", sum := "9d2eea2a1cc9ae78150aa75b0f9a65a3be86831d9ebb0f02e069375e390b6568", checked := Try.checked }
namespace Rows
def none {H : Type} : Left H := { results := [], args := [] }

/-- 'laws.FnExactBytesText': WHATEVER THE INPUT: true; the input reads as it did. -/
def fnExactBytesTextSpec : ChangeSpec := { name := "fnExactBytesText", fn := fun _ => fun
  | [d] => { results := [.lit (.bool true)], args := [d] }
  | _ => none }
def fnExactBytesTextRow : OpenClaim := { program := "ytfhadfcdfeancaa", sum := "9d2eea2a1cc9ae78150aa75b0f9a65a3be86831d9ebb0f02e069375e390b6568", func := "loop.example/proxyframes/laws.FnExactBytesText", spec := "fnExactBytesText", unfollowed := true, recurses := true, apart := false }
def FnExactBytesTextSaid : Prop := fnExactBytesTextRow.holds Try.pinned (OpenSpec.ofChange fnExactBytesTextSpec)

/-- ITS FALSE NEIGHBOUR: 'it returns false'. Refute it at one input. -/
def fnExactBytesTextWrong : ChangeSpec := { name := "fnExactBytesText", fn := fun _ => fun
  | [d] => { results := [.lit (.bool false)], args := [d] }
  | _ => none }
def FnExactBytesTextWrongFalsely : Prop := fnExactBytesTextRow.holds Try.pinned (OpenSpec.ofChange fnExactBytesTextWrong)

/-- 'laws.FnExactNumberOf': WHATEVER THE INPUT: true; the input reads as it did. -/
def fnExactNumberOfSpec : ChangeSpec := { name := "fnExactNumberOf", fn := fun _ => fun
  | [d] => { results := [.lit (.bool true)], args := [d] }
  | _ => none }
def fnExactNumberOfRow : OpenClaim := { program := "ytfhadfcdfeancaa", sum := "9d2eea2a1cc9ae78150aa75b0f9a65a3be86831d9ebb0f02e069375e390b6568", func := "loop.example/proxyframes/laws.FnExactNumberOf", spec := "fnExactNumberOf", unfollowed := true, recurses := true, apart := false }
def FnExactNumberOfSaid : Prop := fnExactNumberOfRow.holds Try.pinned (OpenSpec.ofChange fnExactNumberOfSpec)

/-- ITS FALSE NEIGHBOUR: 'it returns false'. Refute it at one input. -/
def fnExactNumberOfWrong : ChangeSpec := { name := "fnExactNumberOf", fn := fun _ => fun
  | [d] => { results := [.lit (.bool false)], args := [d] }
  | _ => none }
def FnExactNumberOfWrongFalsely : Prop := fnExactNumberOfRow.holds Try.pinned (OpenSpec.ofChange fnExactNumberOfWrong)

/-- 'laws.FnNumberNot': WHATEVER THE INPUT: true; the input reads as it did. -/
def fnNumberNotSpec : ChangeSpec := { name := "fnNumberNot", fn := fun _ => fun
  | [d] => { results := [.lit (.bool true)], args := [d] }
  | _ => none }
def fnNumberNotRow : OpenClaim := { program := "ytfhadfcdfeancaa", sum := "9d2eea2a1cc9ae78150aa75b0f9a65a3be86831d9ebb0f02e069375e390b6568", func := "loop.example/proxyframes/laws.FnNumberNot", spec := "fnNumberNot", apart := false }
def FnNumberNotSaid : Prop := fnNumberNotRow.holds Try.pinned (OpenSpec.ofChange fnNumberNotSpec)

/-- ITS FALSE NEIGHBOUR: 'it returns false'. Refute it at one input. -/
def fnNumberNotWrong : ChangeSpec := { name := "fnNumberNot", fn := fun _ => fun
  | [d] => { results := [.lit (.bool false)], args := [d] }
  | _ => none }
def FnNumberNotWrongFalsely : Prop := fnNumberNotRow.holds Try.pinned (OpenSpec.ofChange fnNumberNotWrong)

/-- 'laws.FnNumberWide': WHATEVER THE INPUT: true; the input reads as it did. -/
def fnNumberWideSpec : ChangeSpec := { name := "fnNumberWide", fn := fun _ => fun
  | [d] => { results := [.lit (.bool true)], args := [d] }
  | _ => none }
def fnNumberWideRow : OpenClaim := { program := "ytfhadfcdfeancaa", sum := "9d2eea2a1cc9ae78150aa75b0f9a65a3be86831d9ebb0f02e069375e390b6568", func := "loop.example/proxyframes/laws.FnNumberWide", spec := "fnNumberWide", apart := false }
def FnNumberWideSaid : Prop := fnNumberWideRow.holds Try.pinned (OpenSpec.ofChange fnNumberWideSpec)

/-- ITS FALSE NEIGHBOUR: 'it returns false'. Refute it at one input. -/
def fnNumberWideWrong : ChangeSpec := { name := "fnNumberWide", fn := fun _ => fun
  | [d] => { results := [.lit (.bool false)], args := [d] }
  | _ => none }
def FnNumberWideWrongFalsely : Prop := fnNumberWideRow.holds Try.pinned (OpenSpec.ofChange fnNumberWideWrong)

/-- 'laws.FnTextJoin': WHATEVER THE INPUT: true; the input reads as it did. -/
def fnTextJoinSpec : ChangeSpec := { name := "fnTextJoin", fn := fun _ => fun
  | [d1, d2] => { results := [.lit (.bool true)], args := [d1, d2] }
  | _ => none }
def fnTextJoinRow : OpenClaim := { program := "ytfhadfcdfeancaa", sum := "9d2eea2a1cc9ae78150aa75b0f9a65a3be86831d9ebb0f02e069375e390b6568", func := "loop.example/proxyframes/laws.FnTextJoin", spec := "fnTextJoin", apart := false }
def FnTextJoinSaid : Prop := fnTextJoinRow.holds Try.pinned (OpenSpec.ofChange fnTextJoinSpec)

/-- ITS FALSE NEIGHBOUR: 'it returns false'. Refute it at one input. -/
def fnTextJoinWrong : ChangeSpec := { name := "fnTextJoin", fn := fun _ => fun
  | [d1, d2] => { results := [.lit (.bool false)], args := [d1, d2] }
  | _ => none }
def FnTextJoinWrongFalsely : Prop := fnTextJoinRow.holds Try.pinned (OpenSpec.ofChange fnTextJoinWrong)

/-- 'laws.FnNumberOne': WHATEVER THE INPUT: true; the input reads as it did. -/
def fnNumberOneSpec : ChangeSpec := { name := "fnNumberOne", fn := fun _ => fun
  | [d] => { results := [.lit (.bool true)], args := [d] }
  | _ => none }
def fnNumberOneRow : OpenClaim := { program := "ytfhadfcdfeancaa", sum := "9d2eea2a1cc9ae78150aa75b0f9a65a3be86831d9ebb0f02e069375e390b6568", func := "loop.example/proxyframes/laws.FnNumberOne", spec := "fnNumberOne", unfollowed := true, recurses := true, apart := false }
def FnNumberOneSaid : Prop := fnNumberOneRow.holds Try.pinned (OpenSpec.ofChange fnNumberOneSpec)

/-- ITS FALSE NEIGHBOUR: 'it returns false'. Refute it at one input. -/
def fnNumberOneWrong : ChangeSpec := { name := "fnNumberOne", fn := fun _ => fun
  | [d] => { results := [.lit (.bool false)], args := [d] }
  | _ => none }
def FnNumberOneWrongFalsely : Prop := fnNumberOneRow.holds Try.pinned (OpenSpec.ofChange fnNumberOneWrong)

/-- 'laws.FnNumberBytes': WHATEVER THE INPUT: true; the input reads as it did. -/
def fnNumberBytesSpec : ChangeSpec := { name := "fnNumberBytes", fn := fun _ => fun
  | [d] => { results := [.lit (.bool true)], args := [d] }
  | _ => none }
def fnNumberBytesRow : OpenClaim := { program := "ytfhadfcdfeancaa", sum := "9d2eea2a1cc9ae78150aa75b0f9a65a3be86831d9ebb0f02e069375e390b6568", func := "loop.example/proxyframes/laws.FnNumberBytes", spec := "fnNumberBytes", unfollowed := true, recurses := true, apart := false }
def FnNumberBytesSaid : Prop := fnNumberBytesRow.holds Try.pinned (OpenSpec.ofChange fnNumberBytesSpec)

/-- ITS FALSE NEIGHBOUR: 'it returns false'. Refute it at one input. -/
def fnNumberBytesWrong : ChangeSpec := { name := "fnNumberBytes", fn := fun _ => fun
  | [d] => { results := [.lit (.bool false)], args := [d] }
  | _ => none }
def FnNumberBytesWrongFalsely : Prop := fnNumberBytesRow.holds Try.pinned (OpenSpec.ofChange fnNumberBytesWrong)

/-- 'laws.FnBytesText': WHATEVER THE INPUT: true; the input reads as it did. -/
def fnBytesTextSpec : ChangeSpec := { name := "fnBytesText", fn := fun _ => fun
  | [d] => { results := [.lit (.bool true)], args := [d] }
  | _ => none }
def fnBytesTextRow : OpenClaim := { program := "ytfhadfcdfeancaa", sum := "9d2eea2a1cc9ae78150aa75b0f9a65a3be86831d9ebb0f02e069375e390b6568", func := "loop.example/proxyframes/laws.FnBytesText", spec := "fnBytesText", unfollowed := true, recurses := true, apart := false }
def FnBytesTextSaid : Prop := fnBytesTextRow.holds Try.pinned (OpenSpec.ofChange fnBytesTextSpec)

/-- ITS FALSE NEIGHBOUR: 'it returns false'. Refute it at one input. -/
def fnBytesTextWrong : ChangeSpec := { name := "fnBytesText", fn := fun _ => fun
  | [d] => { results := [.lit (.bool false)], args := [d] }
  | _ => none }
def FnBytesTextWrongFalsely : Prop := fnBytesTextRow.holds Try.pinned (OpenSpec.ofChange fnBytesTextWrong)

/-- 'laws.FnNumberOf': WHATEVER THE INPUT: true; the input reads as it did. -/
def fnNumberOfSpec : ChangeSpec := { name := "fnNumberOf", fn := fun _ => fun
  | [d] => { results := [.lit (.bool true)], args := [d] }
  | _ => none }
def fnNumberOfRow : OpenClaim := { program := "ytfhadfcdfeancaa", sum := "9d2eea2a1cc9ae78150aa75b0f9a65a3be86831d9ebb0f02e069375e390b6568", func := "loop.example/proxyframes/laws.FnNumberOf", spec := "fnNumberOf", unfollowed := true, recurses := true, apart := false }
def FnNumberOfSaid : Prop := fnNumberOfRow.holds Try.pinned (OpenSpec.ofChange fnNumberOfSpec)

/-- ITS FALSE NEIGHBOUR: 'it returns false'. Refute it at one input. -/
def fnNumberOfWrong : ChangeSpec := { name := "fnNumberOf", fn := fun _ => fun
  | [d] => { results := [.lit (.bool false)], args := [d] }
  | _ => none }
def FnNumberOfWrongFalsely : Prop := fnNumberOfRow.holds Try.pinned (OpenSpec.ofChange fnNumberOfWrong)

/-- 'laws.FnTextBytes': WHATEVER THE INPUT: true; the input reads as it did. -/
def fnTextBytesSpec : ChangeSpec := { name := "fnTextBytes", fn := fun _ => fun
  | [d] => { results := [.lit (.bool true)], args := [d] }
  | _ => none }
def fnTextBytesRow : OpenClaim := { program := "ytfhadfcdfeancaa", sum := "9d2eea2a1cc9ae78150aa75b0f9a65a3be86831d9ebb0f02e069375e390b6568", func := "loop.example/proxyframes/laws.FnTextBytes", spec := "fnTextBytes", unfollowed := true, recurses := true, apart := false }
def FnTextBytesSaid : Prop := fnTextBytesRow.holds Try.pinned (OpenSpec.ofChange fnTextBytesSpec)

/-- ITS FALSE NEIGHBOUR: 'it returns false'. Refute it at one input. -/
def fnTextBytesWrong : ChangeSpec := { name := "fnTextBytes", fn := fun _ => fun
  | [d] => { results := [.lit (.bool false)], args := [d] }
  | _ => none }
def FnTextBytesWrongFalsely : Prop := fnTextBytesRow.holds Try.pinned (OpenSpec.ofChange fnTextBytesWrong)

/-- 'laws.FnExactHelloPick': WHATEVER THE INPUT: true; the input reads as it did. -/
def fnExactHelloPickSpec : ChangeSpec := { name := "fnExactHelloPick", fn := fun _ => fun
  | [d1, d2] => { results := [.lit (.bool true)], args := [d1, d2] }
  | _ => none }
def fnExactHelloPickRow : OpenClaim := { program := "ytfhadfcdfeancaa", sum := "9d2eea2a1cc9ae78150aa75b0f9a65a3be86831d9ebb0f02e069375e390b6568", func := "loop.example/proxyframes/laws.FnExactHelloPick", spec := "fnExactHelloPick", apart := false }
def FnExactHelloPickSaid : Prop := fnExactHelloPickRow.holds Try.pinned (OpenSpec.ofChange fnExactHelloPickSpec)

/-- ITS FALSE NEIGHBOUR: 'it returns false'. Refute it at one input. -/
def fnExactHelloPickWrong : ChangeSpec := { name := "fnExactHelloPick", fn := fun _ => fun
  | [d1, d2] => { results := [.lit (.bool false)], args := [d1, d2] }
  | _ => none }
def FnExactHelloPickWrongFalsely : Prop := fnExactHelloPickRow.holds Try.pinned (OpenSpec.ofChange fnExactHelloPickWrong)

/-- 'laws.FnExactHelloBytes': WHATEVER THE INPUT: true; the input reads as it did. -/
def fnExactHelloBytesSpec : ChangeSpec := { name := "fnExactHelloBytes", fn := fun _ => fun
  | [d] => { results := [.lit (.bool true)], args := [d] }
  | _ => none }
def fnExactHelloBytesRow : OpenClaim := { program := "ytfhadfcdfeancaa", sum := "9d2eea2a1cc9ae78150aa75b0f9a65a3be86831d9ebb0f02e069375e390b6568", func := "loop.example/proxyframes/laws.FnExactHelloBytes", spec := "fnExactHelloBytes", apart := false }
def FnExactHelloBytesSaid : Prop := fnExactHelloBytesRow.holds Try.pinned (OpenSpec.ofChange fnExactHelloBytesSpec)

/-- ITS FALSE NEIGHBOUR: 'it returns false'. Refute it at one input. -/
def fnExactHelloBytesWrong : ChangeSpec := { name := "fnExactHelloBytes", fn := fun _ => fun
  | [d] => { results := [.lit (.bool false)], args := [d] }
  | _ => none }
def FnExactHelloBytesWrongFalsely : Prop := fnExactHelloBytesRow.holds Try.pinned (OpenSpec.ofChange fnExactHelloBytesWrong)

/- THE SECOND FORM. 'bulk': how many values and letters a reading holds, each counted each time it is reached (what is shared counts as often as it is met; a slice's spare places count too). A statement '..UptoSaid' is the law's where the arguments, and the package variables that the reading takes, are together of bulk at most 1048576: NARROWER than '..Said'. Prove '..Said' where nothing that the law and all that it calls make is longer than what came in: it says more and counts as full. Else prove '..UptoSaid'. A law counts once. -/
mutual
def uptoBulk {H : Type} : DataW H → Nat
  | .lit (.string bytes) => bytes.length + 1
  | .lit _ => 1
  | .nil => 1
  | .ptr d => uptoBulk d + 1
  | .slice elems spare => uptoBulkAll elems + uptoBulkAll spare + 1
  | .agg parts => uptoBulkAll parts + 1
  | .iface _ d => uptoBulk d + 1
  | .map entries => uptoBulkEntries entries + 1
  | .held _ => 1
def uptoBulkAll {H : Type} : List (DataW H) → Nat
  | [] => 0
  | d :: r => uptoBulk d + uptoBulkAll r
def uptoBulkEntries {H : Type} : List (Lit × DataW H) → Nat
  | [] => 0
  | x :: r => uptoBulkEntry x + uptoBulkEntries r
def uptoBulkEntry {H : Type} : Lit × DataW H → Nat
  | (.string bytes, d) => bytes.length + uptoBulk d + 1
  | (_, d) => uptoBulk d + 1
 end
def uptoSmall : (H : Type) → List (DataW H) → Bool := fun _ ds => decide (uptoBulkAll ds ≤ 1048576)
def OpenSpec.upto (s : _root_.Go.ChangeSpec) : _root_.Go.OpenSpec := { _root_.Go.OpenSpec.ofChange s with cond := some uptoSmall }

/-- 'laws.FnExactBytesText', WHERE WHAT IT READS IS OF BULK AT MOST 1048576: true; the input reads as it did. -/
def fnExactBytesTextUptoRow : OpenClaim := { program := "ytfhadfcdfeancaa", sum := "9d2eea2a1cc9ae78150aa75b0f9a65a3be86831d9ebb0f02e069375e390b6568", func := "loop.example/proxyframes/laws.FnExactBytesText", spec := "fnExactBytesText", unfollowed := true, recurses := true, apart := false, narrowed := true }
def FnExactBytesTextUptoSaid : Prop := fnExactBytesTextUptoRow.holds Try.pinned (OpenSpec.upto fnExactBytesTextSpec)

/-- 'laws.FnExactNumberOf', WHERE WHAT IT READS IS OF BULK AT MOST 1048576: true; the input reads as it did. -/
def fnExactNumberOfUptoRow : OpenClaim := { program := "ytfhadfcdfeancaa", sum := "9d2eea2a1cc9ae78150aa75b0f9a65a3be86831d9ebb0f02e069375e390b6568", func := "loop.example/proxyframes/laws.FnExactNumberOf", spec := "fnExactNumberOf", unfollowed := true, recurses := true, apart := false, narrowed := true }
def FnExactNumberOfUptoSaid : Prop := fnExactNumberOfUptoRow.holds Try.pinned (OpenSpec.upto fnExactNumberOfSpec)

/-- 'laws.FnNumberNot', WHERE WHAT IT READS IS OF BULK AT MOST 1048576: true; the input reads as it did. -/
def fnNumberNotUptoRow : OpenClaim := { program := "ytfhadfcdfeancaa", sum := "9d2eea2a1cc9ae78150aa75b0f9a65a3be86831d9ebb0f02e069375e390b6568", func := "loop.example/proxyframes/laws.FnNumberNot", spec := "fnNumberNot", apart := false, narrowed := true }
def FnNumberNotUptoSaid : Prop := fnNumberNotUptoRow.holds Try.pinned (OpenSpec.upto fnNumberNotSpec)

/-- 'laws.FnNumberWide', WHERE WHAT IT READS IS OF BULK AT MOST 1048576: true; the input reads as it did. -/
def fnNumberWideUptoRow : OpenClaim := { program := "ytfhadfcdfeancaa", sum := "9d2eea2a1cc9ae78150aa75b0f9a65a3be86831d9ebb0f02e069375e390b6568", func := "loop.example/proxyframes/laws.FnNumberWide", spec := "fnNumberWide", apart := false, narrowed := true }
def FnNumberWideUptoSaid : Prop := fnNumberWideUptoRow.holds Try.pinned (OpenSpec.upto fnNumberWideSpec)

/-- 'laws.FnTextJoin', WHERE WHAT IT READS IS OF BULK AT MOST 1048576: true; the input reads as it did. -/
def fnTextJoinUptoRow : OpenClaim := { program := "ytfhadfcdfeancaa", sum := "9d2eea2a1cc9ae78150aa75b0f9a65a3be86831d9ebb0f02e069375e390b6568", func := "loop.example/proxyframes/laws.FnTextJoin", spec := "fnTextJoin", apart := false, narrowed := true }
def FnTextJoinUptoSaid : Prop := fnTextJoinUptoRow.holds Try.pinned (OpenSpec.upto fnTextJoinSpec)

/-- 'laws.FnNumberOne', WHERE WHAT IT READS IS OF BULK AT MOST 1048576: true; the input reads as it did. -/
def fnNumberOneUptoRow : OpenClaim := { program := "ytfhadfcdfeancaa", sum := "9d2eea2a1cc9ae78150aa75b0f9a65a3be86831d9ebb0f02e069375e390b6568", func := "loop.example/proxyframes/laws.FnNumberOne", spec := "fnNumberOne", unfollowed := true, recurses := true, apart := false, narrowed := true }
def FnNumberOneUptoSaid : Prop := fnNumberOneUptoRow.holds Try.pinned (OpenSpec.upto fnNumberOneSpec)

/-- 'laws.FnNumberBytes', WHERE WHAT IT READS IS OF BULK AT MOST 1048576: true; the input reads as it did. -/
def fnNumberBytesUptoRow : OpenClaim := { program := "ytfhadfcdfeancaa", sum := "9d2eea2a1cc9ae78150aa75b0f9a65a3be86831d9ebb0f02e069375e390b6568", func := "loop.example/proxyframes/laws.FnNumberBytes", spec := "fnNumberBytes", unfollowed := true, recurses := true, apart := false, narrowed := true }
def FnNumberBytesUptoSaid : Prop := fnNumberBytesUptoRow.holds Try.pinned (OpenSpec.upto fnNumberBytesSpec)

/-- 'laws.FnBytesText', WHERE WHAT IT READS IS OF BULK AT MOST 1048576: true; the input reads as it did. -/
def fnBytesTextUptoRow : OpenClaim := { program := "ytfhadfcdfeancaa", sum := "9d2eea2a1cc9ae78150aa75b0f9a65a3be86831d9ebb0f02e069375e390b6568", func := "loop.example/proxyframes/laws.FnBytesText", spec := "fnBytesText", unfollowed := true, recurses := true, apart := false, narrowed := true }
def FnBytesTextUptoSaid : Prop := fnBytesTextUptoRow.holds Try.pinned (OpenSpec.upto fnBytesTextSpec)

/-- 'laws.FnNumberOf', WHERE WHAT IT READS IS OF BULK AT MOST 1048576: true; the input reads as it did. -/
def fnNumberOfUptoRow : OpenClaim := { program := "ytfhadfcdfeancaa", sum := "9d2eea2a1cc9ae78150aa75b0f9a65a3be86831d9ebb0f02e069375e390b6568", func := "loop.example/proxyframes/laws.FnNumberOf", spec := "fnNumberOf", unfollowed := true, recurses := true, apart := false, narrowed := true }
def FnNumberOfUptoSaid : Prop := fnNumberOfUptoRow.holds Try.pinned (OpenSpec.upto fnNumberOfSpec)

/-- 'laws.FnTextBytes', WHERE WHAT IT READS IS OF BULK AT MOST 1048576: true; the input reads as it did. -/
def fnTextBytesUptoRow : OpenClaim := { program := "ytfhadfcdfeancaa", sum := "9d2eea2a1cc9ae78150aa75b0f9a65a3be86831d9ebb0f02e069375e390b6568", func := "loop.example/proxyframes/laws.FnTextBytes", spec := "fnTextBytes", unfollowed := true, recurses := true, apart := false, narrowed := true }
def FnTextBytesUptoSaid : Prop := fnTextBytesUptoRow.holds Try.pinned (OpenSpec.upto fnTextBytesSpec)

/-- 'laws.FnExactHelloPick', WHERE WHAT IT READS IS OF BULK AT MOST 1048576: true; the input reads as it did. -/
def fnExactHelloPickUptoRow : OpenClaim := { program := "ytfhadfcdfeancaa", sum := "9d2eea2a1cc9ae78150aa75b0f9a65a3be86831d9ebb0f02e069375e390b6568", func := "loop.example/proxyframes/laws.FnExactHelloPick", spec := "fnExactHelloPick", apart := false, narrowed := true }
def FnExactHelloPickUptoSaid : Prop := fnExactHelloPickUptoRow.holds Try.pinned (OpenSpec.upto fnExactHelloPickSpec)

/-- 'laws.FnExactHelloBytes', WHERE WHAT IT READS IS OF BULK AT MOST 1048576: true; the input reads as it did. -/
def fnExactHelloBytesUptoRow : OpenClaim := { program := "ytfhadfcdfeancaa", sum := "9d2eea2a1cc9ae78150aa75b0f9a65a3be86831d9ebb0f02e069375e390b6568", func := "loop.example/proxyframes/laws.FnExactHelloBytes", spec := "fnExactHelloBytes", apart := false, narrowed := true }
def FnExactHelloBytesUptoSaid : Prop := fnExactHelloBytesUptoRow.holds Try.pinned (OpenSpec.upto fnExactHelloBytesSpec)

end Rows
end Go.Proofs.Ytfhadfcdfeancaa
