/- The powers of ten and the errors' variables, as the calls find them. No condition. -/
import Derived.Test.YthgfldabeaepaaaGreatDoorEnv
import Derived.Test.YthgfldabeaepaaaGreatDoorRows
import Derived.Stop.LaidErr
import Derived.LaidSub
namespace Go.Proofs.YthgfldabeaepaaaGreatDoor
open Go.RowKit
/-- The powers of ten lie where the calls look for them. -/
def EnvP (w : World) : Prop := Lib.TabIs Tryz.prog w "internal/strconv.uint64pow10" .u64 Lib.pow10Tab
theorem tenNamed : Tryz.prog.globalNamed "internal/strconv.uint64pow10" = some 3 := by kernel_rfl
theorem EnvP.lt {w : World} (h : EnvP w) : 3 < w.heap.size := World.block_lt_of_cell? w _ (h.cell tenNamed 0 (by simp [Lib.pow10Tab]))
theorem EnvP.step {w w' : World} (h : EnvP w) (hb : Below w.heap.size w w') : EnvP w' := by
  have hlt := h.lt
  unfold EnvP Lib.TabIs World.var? at *
  rw [tenNamed, Option.bind_some] at h ⊢
  rw [hb.block _ hlt]
  exact h
theorem envP_laid {W : World} {l : List (String × DataW Unit)} (h : laidMet Tryz.prog (("internal/strconv.uint64pow10", Rows.laid_internal_strconv_uint64pow10) :: l) W) : EnvP W :=
  Lib.tabIs_of_head (t := 111) (e := 86) (n := 20) tenNamed (by kernel_rfl) (by kernel_rfl) (by kernel_rfl) (by kernel_rfl) (by kernel_rfl) h
theorem below_grown_ten (w : World) (q : Nat) (os : Array Obj) : Below w.heap.size w (Go.Sort.grow (w.drewN q) os) := by
  refine ⟨rfl, rfl, rfl, ?_, fun j hj => ?_⟩
  · show w.heap.size ≤ (w.heap ++ os).size
    rw [Array.size_append]
    omega
  · show (w.heap ++ os)[j]? = _
    rw [Array.getElem?_append_left hj]
/-- The text of a number. -/
theorem itoa_any (n : Int) (h0 : -9223372036854775808 ≤ n) (h1 : n ≤ 9223372036854775807) (w : World) (hP : EnvP w) :
    Calls Tryz.prog 34 #[.int .i64 n] w fun e w' => e = .returned (.string ⟨(Lib.itoa n).toArray⟩) ∧ Below w.heap.size w w' := by
  refine (Tryz.strconv_Itoa n h0 h1 w hP).mono ?_
  rintro e w' ⟨rfl, k, os, rfl⟩
  exact ⟨rfl, below_grown_ten w k os⟩
end Go.Proofs.YthgfldabeaepaaaGreatDoor
