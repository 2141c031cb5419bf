/- An address that came in as an argument: how it is opened. No condition. -/
import Derived.Test.YthgfldabeaepaaaDoorRow
import Derived.Lib.SmallJoins
namespace Go.Proofs.YthgfldabeaepaaaDoor
open Go.ChangeShapes Go.WideShapes Go.ChangeAt Go.RowKit Go.Joins

set_option maxRecDepth 100000 in
theorem rd_cell {H : Type} {enc : TypeId × Value → H} {w : World} {base : Nat} {held : Bool} {t e : TypeId} {k : IntKind} {v : Value} {fuel : Nat} {y : DataW H × List MemPlace}
    (ht : Tryd.prog.underlying t = some (.slice e)) (he : Tryd.prog.underlying e = some (.int k)) (hC : Tryd.prog.cellsOf e = 1) (h : DataW.trod enc Tryd.prog w base (fun _ => true) held fuel t [v] = some y) :
    ∃ (A : Option Addr) (n c : Nat) (zs : List Int), v = .slice A n c ∧ Rd w A n (zs.map (Value.int k)) ∧ n ≤ c ∧ c ≤ maxLen := by
  rcases open_ints ht he hC h with ⟨hcs, _⟩ | ⟨x, l, c', zs, hcs, _, hl, hm, hz, _, hcell, _⟩
  · injection hcs with hv
    exact ⟨none, 0, 0, [], hv, ⟨rfl, by omega, fun h => absurd h (by omega)⟩, Nat.le_refl _, by unfold maxLen; omega⟩
  · injection hcs with hv
    exact ⟨some x, l, c', zs.take l, hv, rd_of_cells hl hm (by simpa using hz) hcell, hl, hm⟩
set_option maxRecDepth 100000 in
theorem address_open {H : Type} {enc : TypeId × Value → H} {w : World} {r : Reach} {b0 : Nat} {v : Value} {d : DataW H} {p : List MemPlace} (hv : Value.okWide Tryd.prog w r b0 36 v) (h : DataW.Trod enc Tryd.prog w 0 (fun _ => true) true 36 v d p) :
    ∃ (ki : Int) (A : Option Addr) (n c : Nat) (zs : List Int) (s : ByteArray) (po : Int), v = .agg #[.int .i64 ki, .slice A n c, .string s, .int .i64 po] ∧ (Rd w A n (zs.map (Value.int .i64)) ∧ n ≤ c ∧ c ≤ maxLen) ∧ s.size ≤ maxLen := by
  obtain ⟨v0, v1, v2, v3, y0, y1, y2, y3, n, rfl, _, _, h0, h1, h2, h3⟩ := open_agg4 Tryd.underlying36 (by kernel_rfl) (by kernel_rfl) hv h
  obtain ⟨ki, e0, _, _⟩ := DataW.trod_int Tryd.underlying3 h0
  obtain ⟨A, m, c, zs, rfl, hr⟩ := rd_cell Tryd.underlying22 Tryd.underlying3 (by kernel_rfl) h1
  obtain ⟨s, e2, _, hs⟩ := DataW.trod_string Tryd.underlying9 h2
  obtain ⟨po, e3, _, _⟩ := DataW.trod_int Tryd.underlying3 h3
  injection e0 with e0
  injection e2 with e2
  injection e3 with e3
  subst e0 e2 e3
  exact ⟨ki, A, m, c, zs, s, po, rfl, hr, hs⟩
end Go.Proofs.YthgfldabeaepaaaDoor
