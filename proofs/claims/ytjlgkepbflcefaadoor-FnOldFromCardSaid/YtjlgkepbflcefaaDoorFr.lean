/- Appending in a region that draws its order, and where the new row lies. No condition. -/
import Derived.Test.YtjlgkepbflcefaaDoorApp
import Derived.Maps.AppendAt
namespace Go.Proofs.YtjlgkepbflcefaaDoor
open Go.RowKit

section
variable {ops : Array Oper} {rest : List Oper} {o : Oper} {a : Act} {Q : Exit → Act → World → Prop}
/-- append(x, y...) in a region that draws its order; the new row lies where the elder lay, or in a block of its own. -/
theorem step_append_fr {K : Act → World → Prop} {E : Prop} (w : World) (hg : o.guard = none) (s x : Operand)
    (ho : o.op = .call { callee := .builtin .append, args := #[s, x], argTypes := #[22, 22] })
    (base : Nat) (A : Option Addr) (n c : Nat) (xs : List Int) (hs : a.eval s = .slice A n c) (hown : w.ownsRow base 3 1 (.slice A n c) n (ints xs))
    (A2 : Option Addr) (m c2 : Nat) (ys : List Int) (hx : a.eval x = .slice A2 m c2) (hr : Rd w A2 m (ints ys)) (hb : n + m ≤ 4000000) (hbase : base ≤ w.heap.size)
    (h : ∀ A' c' w', w'.ownsRow base 3 1 (.slice A' (n + m) c') (n + m) (ints (xs ++ ys)) → w.grownBy w' (Value.ownBlock (.slice A n c)) → (∀ k, Value.ownBlock (.slice A' (n + m) c') = some k → Value.ownBlock (.slice A n c) = some k ∨ w.heap.size ≤ k) → K (a.put o.dst (.slice A' (n + m) c')) w') :
    if Region.wanted o (yielded ops a.tmps) = true then Oper.wp Tryd.prog o a w K Q else E := by
  obtain ⟨i0, hi, hz0, hz1, hz2⟩ := info_parts Tryd.infoInt
  have hw : Region.wanted o (yielded ops a.tmps) = true := by simp [Region.wanted, hg]
  rw [if_pos hw]
  have hyl := hr.ilen
  have hlen : (ints ys).length = m * 1 := by simp [hyl]
  by_cases hm : m = 0
  · subst hm
    have hys : ys = [] := List.eq_nil_of_length_eq_zero hyl
    subst hys
    have hrun : (Builtin.append_ #[22, 22] o.type #[.slice A n c, .slice A2 0 c2]).run Tryd.prog w = .ok (.slice A n c) w := by
      have hcap := (own_cap hown).1
      cases A2 with
      | none => cases A <;> simp [Builtin.append_, run_underlying Tryd.underlying22, sizeOf, typeInfo, hi, Builtin.lenOf, Builtin.firstCells, hcap, storeCells]
      | some ad => cases A <;> simp [Builtin.append_, run_underlying Tryd.underlying22, sizeOf, typeInfo, hi, Builtin.lenOf, Builtin.firstCells, hcap, storeCells, loadCells, loadCellsFrom]
    unfold Oper.wp execOp
    simp only [ho, resolve, invoke, builtin, Sem.run_bind, Sem.run_pure, Result.andThen_ok, List.map_toArray, List.map_cons, List.map_nil, hs, hx, hrun]
    exact (h A c w (by simpa using hown) (World.grownBy.refl _ _) (fun k hk => .inl hk))
  · obtain ⟨b, off, rfl, hcell⟩ := hr.2.2 (by omega)
    have hh : ∀ j u, (ints ys)[j]? = some u → w.cell? ((⟨b, off, none⟩ : Addr).add j) = some u := by
      intro j u hj
      rw [Addr.add_lit]
      exact hcell j u hj
    obtain ⟨v', w', hr', h2, h3, _, h5⟩ := run_append_own_at (P := Tryd.prog) (w := w) base 22 o.type 3 i0 (.int .i64 0) 1 8 Tryd.underlying22 hi hz0 hz1 hz2 rfl (by decide) _ n (ints xs) hown ⟨b, off, none⟩ m c2 (ints ys) hlen hh (ints_oneCell _ _) (by unfold maxLen; omega) (by omega) hbase
    have h2' : w'.ownsRow base 3 1 v' (n + m) (ints (xs ++ ys)) := by simpa [ints] using h2
    obtain ⟨A', c', rfl, _, _⟩ := own_form h2'
    unfold Oper.wp execOp
    simp only [ho, resolve, invoke, builtin, Sem.run_bind, Sem.run_pure, Result.andThen_ok, List.map_toArray, List.map_cons, List.map_nil, hs, hx, hr']
    refine h A' c' w' h2' h3 fun k hk => ?_
    rcases h5 with h5 | h5
    · exact .inl (h5.symm.trans hk)
    · rw [h5] at hk
      injection hk with hk
      exact .inr (by omega)
end
end Go.Proofs.YtjlgkepbflcefaaDoor
