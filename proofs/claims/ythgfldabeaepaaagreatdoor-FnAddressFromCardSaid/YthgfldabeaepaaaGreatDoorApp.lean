/- Appending to a row of ints that the call itself made, guarded or not. No condition. -/
import Derived.Test.YthgfldabeaepaaaGreatDoorHelp
namespace Go.Proofs.YthgfldabeaepaaaGreatDoor
open Go.RowKit

section
variable {ops : Array Oper} {rest : List Oper} {o : Oper} {a : Act} {Q : Exit → Act → World → Prop}

theorem wpList_wanted {P : Program} {w : World} (hw : Region.wanted o (yielded ops a.tmps) = true) (h : ∀ K : Act → World → Prop, (∀ a w, wpList P ops Q rest a w → K a w) → o.wp P a w K Q) : wpList P ops Q (o :: rest) a w :=
  wpList_step fun K hK => by rw [if_pos hw]; exact h K hK

/-- append(x, y...), x a row of the call's own, y any slice. -/
theorem wpList_append_rd (w : World) (hw : Region.wanted o (yielded ops a.tmps) = true) (s x : Operand)
    (ho : o.op = .call { callee := .builtin .append, args := #[s, x], argTypes := #[24, 24] })
    (base : Nat) (A : Option Addr) (n c : Nat) (xs : List Int) (hs : a.eval s = .slice A n c) (hown : w.ownsRow base 3 1 (.slice A n c) n (ints xs))
    (A2 : Option Addr) (m c2 : Nat) (ys : List Int) (hx : a.eval x = .slice A2 m c2) (hr : Rd w A2 m (ints ys)) (hb : n + m ≤ 4000000) (hbase : base ≤ w.heap.size)
    (h : ∀ A' c' w', w'.ownsRow base 3 1 (.slice A' (n + m) c') (n + m) (ints (xs ++ ys)) → w.grownBy w' (Value.ownBlock (.slice A n c)) → wpList Tryz.prog ops Q rest (a.put o.dst (.slice A' (n + m) c')) w') :
    wpList Tryz.prog ops Q (o :: rest) a w := by
  obtain ⟨i0, hi, hz0, hz1, hz2⟩ := info_parts Tryz.infoInt
  refine wpList_wanted hw fun K hK => ?_
  have hyl := hr.ilen
  have hlen : (ints ys).length = m * 1 := by simp [hyl]
  by_cases hm : m = 0
  · subst hm
    have hys : ys = [] := List.eq_nil_of_length_eq_zero hyl
    subst hys
    have hrun : (Builtin.append_ #[24, 24] o.type #[.slice A n c, .slice A2 0 c2]).run Tryz.prog w = .ok (.slice A n c) w := by
      have hcap := (own_cap hown).1
      cases A2 with
      | none => cases A <;> simp [Builtin.append_, run_underlying Tryz.underlying24, sizeOf, typeInfo, hi, Builtin.lenOf, Builtin.firstCells, hcap, storeCells]
      | some ad => cases A <;> simp [Builtin.append_, run_underlying Tryz.underlying24, sizeOf, typeInfo, hi, Builtin.lenOf, Builtin.firstCells, hcap, storeCells, loadCells, loadCellsFrom]
    unfold Oper.wp execOp
    simp only [ho, resolve, invoke, builtin, Sem.run_bind, Sem.run_pure, Result.andThen_ok, List.map_toArray, List.map_cons, List.map_nil, hs, hx, hrun]
    exact hK _ _ (h A c w (by simpa using hown) (World.grownBy.refl _ _))
  · obtain ⟨b, off, rfl, hcell⟩ := hr.2.2 (by omega)
    refine wp_append_own w s x 24 ho base 3 i0 (.int .i64 0) 1 8 Tryz.underlying24 hi hz0 hz1 hz2 rfl (by decide) _ n (ints xs) hs hown ⟨b, off, none⟩ m c2 (ints ys) hx hlen ?_ (ints_oneCell _ _) (by unfold maxLen; omega) (by omega) hbase ?_
    · intro j u hj
      rw [Addr.add_lit]
      exact hcell j u hj
    · intro v' w' h2 h3 _
      have h2' : w'.ownsRow base 3 1 v' (n + m) (ints (xs ++ ys)) := by simpa [ints] using h2
      obtain ⟨A', c', rfl, _, _⟩ := own_form h2'
      exact hK _ _ (h A' c' w' h2' h3)
end
end Go.Proofs.YthgfldabeaepaaaGreatDoor
