/- Making a row of ints, guarded or not. No condition. -/
import Derived.Test.YtjlgkepbflcefaaDoorApp
namespace Go.Proofs.YtjlgkepbflcefaaDoor
open Go.RowKit

section
variable {ops : Array Oper} {rest : List Oper} {o : Oper} {a : Act} {Q : Exit → Act → World → Prop}
/-- make([]int, n), guarded or not. -/
theorem wpList_make_rd (w : World) (hw : Region.wanted o (yielded ops a.tmps) = true) (l c : Operand) (hop : o.op = .makeSlice 22 l c) (base : Nat)
    (kl kc : IntKind) (L C : Int) (n : Nat) (hl : a.eval l = .int kl L) (hc : a.eval c = .int kc C) (hL : L = (n : Int)) (hC : C = (n : Int)) (hn : n ≤ 1000000) (hbase : base ≤ w.heap.size)
    (h : ∀ w', w'.ownsRow base 3 1 (.slice (some ⟨w.heap.size, 0, none⟩) n n) n (ints (List.replicate n 0)) → w.grownBy w' none → wpList Tryd.prog ops Q rest (a.put o.dst (.slice (some ⟨w.heap.size, 0, none⟩) n n)) w') :
    wpList Tryd.prog ops Q (o :: rest) a w := by
  obtain ⟨i0, hi, hz0, hz1, hz2⟩ := info_parts Tryd.infoInt
  refine wpList_wanted hw fun K hK => ?_
  obtain ⟨w', hrun, r1, r2⟩ := run_make_full (P := Tryd.prog) w base 22 3 i0 (.int .i64 0) 1 Tryd.underlying22 hi hz0 hz1 kl kc n (by rw [hz2]; omega) (by unfold maxLen; omega) hbase
  subst hL
  subst hC
  unfold Oper.wp
  simp [execOp, hop, hl, hc, hrun, Result.andThen]
  exact hK _ _ (h w' (by rw [show (Value.int .i64 0).cells = #[.int .i64 0] from rfl] at r1; simpa [toList_madeCells_one, ints] using r1) r2)

end
end Go.Proofs.YtjlgkepbflcefaaDoor
