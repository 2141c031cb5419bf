/-
  No cell of these rows narrows 'for every input' (looked for: loops, veiled, ifaces, maps, wideKeys, modest, calm, conditions, laid).
  DERIVED. THE GIVEN ROWS OF THIS SEAT. 2 by the template 'for every input the law returns true; each argument reads behind the call as it read before'; 0 by the template 'total and deterministic' (their statements: YtfikfihcjddgnaaTotals.lean).
  GIVEN WITH THE SEED: the statements are not yours to turn. If you find one false, say at which input.
  Laid BY PROGRAM, IN A SANDBOX (cutbox-rows.mjs): the forced cells as the released guide's own fill.sh prints them over the translation d624e1cab88b9e4b… (all of the seat's roots in one cut). By AI agents, Wed Nov 11 2026. No macro, syntax, notation, axiom, sorry.
-/
import Derived.Test.YtfikfihcjddgnaaChecked
import GoSem.Claim
import GoSem.ClaimJoined
import GoSem.ClaimMapViews
import Derived.JoinedTies
import Derived.KernelRfl
namespace Go.Proofs.Ytfikfihcjddgnaa
/- THE CELL 'sum', in the pinned program and in every row, IS THE sha256 OF THE DUMP (.gsa) THAT YtfikfihcjddgnaaProg.lean LOADS. Nothing in Lean hashes anything: it is a label: what it is worth is what the hold of that sum in a sandbox is worth. -/
noncomputable def Try.pinned : Pinned := { name := "ytfikfihcjddgnaa", sum := "d624e1cab88b9e4bf4e7e8ce24d3b8347f09f8d57fe7a83170e3b9a7541c3738", checked := Try.checked }
namespace Rows
def none {H : Type} : Left H := { results := [], args := [] }

/-- 'laws.FnHelloSize': WHATEVER THE INPUT: true; the input reads as it did. -/
def fnHelloSizeSpec : ChangeSpec := { name := "fnHelloSize", fn := fun _ => fun
  | [d] => { results := [.lit (.bool true)], args := [d] }
  | _ => none }
def fnHelloSizeRow : OpenClaim := { program := "ytfikfihcjddgnaa", sum := "d624e1cab88b9e4bf4e7e8ce24d3b8347f09f8d57fe7a83170e3b9a7541c3738", func := "loop.example/proxyframes/laws.FnHelloSize", spec := "fnHelloSize", apart := false }
def FnHelloSizeSaid : Prop := fnHelloSizeRow.holds Try.pinned (OpenSpec.ofChange fnHelloSizeSpec)

/-- ITS FALSE NEIGHBOUR: 'it returns false'. Refute it at one input. -/
def fnHelloSizeWrong : ChangeSpec := { name := "fnHelloSize", fn := fun _ => fun
  | [d] => { results := [.lit (.bool false)], args := [d] }
  | _ => none }
def FnHelloSizeWrongFalsely : Prop := fnHelloSizeRow.holds Try.pinned (OpenSpec.ofChange fnHelloSizeWrong)

/-- 'laws.FnExactPickFrom': WHATEVER THE INPUT: true; the input reads as it did. -/
def fnExactPickFromSpec : ChangeSpec := { name := "fnExactPickFrom", fn := fun _ => fun
  | [d] => { results := [.lit (.bool true)], args := [d] }
  | _ => none }
def fnExactPickFromRow : OpenClaim := { program := "ytfikfihcjddgnaa", sum := "d624e1cab88b9e4bf4e7e8ce24d3b8347f09f8d57fe7a83170e3b9a7541c3738", func := "loop.example/proxyframes/laws.FnExactPickFrom", spec := "fnExactPickFrom", unfollowed := true, recurses := true, apart := false }
def FnExactPickFromSaid : Prop := fnExactPickFromRow.holds Try.pinned (OpenSpec.ofChange fnExactPickFromSpec)

/-- ITS FALSE NEIGHBOUR: 'it returns false'. Refute it at one input. -/
def fnExactPickFromWrong : ChangeSpec := { name := "fnExactPickFrom", fn := fun _ => fun
  | [d] => { results := [.lit (.bool false)], args := [d] }
  | _ => none }
def FnExactPickFromWrongFalsely : Prop := fnExactPickFromRow.holds Try.pinned (OpenSpec.ofChange fnExactPickFromWrong)

/- THE SECOND FORM. 'bulk': how many values and letters a reading holds, each counted each time it is reached (what is shared counts as often as it is met; a slice's spare places count too). A statement '..UptoSaid' is the law's where the arguments, and the package variables that the reading takes, are together of bulk at most 1048576: NARROWER than '..Said'. Prove '..Said' where nothing that the law and all that it calls make is longer than what came in: it says more and counts as full. Else prove '..UptoSaid'. A law counts once. -/
mutual
def uptoBulk {H : Type} : DataW H → Nat
  | .lit (.string bytes) => bytes.length + 1
  | .lit _ => 1
  | .nil => 1
  | .ptr d => uptoBulk d + 1
  | .slice elems spare => uptoBulkAll elems + uptoBulkAll spare + 1
  | .agg parts => uptoBulkAll parts + 1
  | .iface _ d => uptoBulk d + 1
  | .map entries => uptoBulkEntries entries + 1
  | .held _ => 1
def uptoBulkAll {H : Type} : List (DataW H) → Nat
  | [] => 0
  | d :: r => uptoBulk d + uptoBulkAll r
def uptoBulkEntries {H : Type} : List (Lit × DataW H) → Nat
  | [] => 0
  | x :: r => uptoBulkEntry x + uptoBulkEntries r
def uptoBulkEntry {H : Type} : Lit × DataW H → Nat
  | (.string bytes, d) => bytes.length + uptoBulk d + 1
  | (_, d) => uptoBulk d + 1
 end
def uptoSmall : (H : Type) → List (DataW H) → Bool := fun _ ds => decide (uptoBulkAll ds ≤ 1048576)
def OpenSpec.upto (s : _root_.Go.ChangeSpec) : _root_.Go.OpenSpec := { _root_.Go.OpenSpec.ofChange s with cond := some uptoSmall }

/-- 'laws.FnHelloSize', WHERE WHAT IT READS IS OF BULK AT MOST 1048576: true; the input reads as it did. -/
def fnHelloSizeUptoRow : OpenClaim := { program := "ytfikfihcjddgnaa", sum := "d624e1cab88b9e4bf4e7e8ce24d3b8347f09f8d57fe7a83170e3b9a7541c3738", func := "loop.example/proxyframes/laws.FnHelloSize", spec := "fnHelloSize", apart := false, narrowed := true }
def FnHelloSizeUptoSaid : Prop := fnHelloSizeUptoRow.holds Try.pinned (OpenSpec.upto fnHelloSizeSpec)

/-- 'laws.FnExactPickFrom', WHERE WHAT IT READS IS OF BULK AT MOST 1048576: true; the input reads as it did. -/
def fnExactPickFromUptoRow : OpenClaim := { program := "ytfikfihcjddgnaa", sum := "d624e1cab88b9e4bf4e7e8ce24d3b8347f09f8d57fe7a83170e3b9a7541c3738", func := "loop.example/proxyframes/laws.FnExactPickFrom", spec := "fnExactPickFrom", unfollowed := true, recurses := true, apart := false, narrowed := true }
def FnExactPickFromUptoSaid : Prop := fnExactPickFromUptoRow.holds Try.pinned (OpenSpec.upto fnExactPickFromSpec)

end Rows
end Go.Proofs.Ytfikfihcjddgnaa
