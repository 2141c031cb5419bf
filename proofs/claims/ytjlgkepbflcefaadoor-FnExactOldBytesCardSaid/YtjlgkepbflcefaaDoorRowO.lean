/- A request of the fourth version that came in as an argument: how it is opened. No condition. -/
import Derived.Test.YtjlgkepbflcefaaDoorRowA
namespace Go.Proofs.YtjlgkepbflcefaaDoor
open Go.ChangeShapes Go.WideShapes Go.ChangeAt Go.RowKit Go.Joins
theorem array6 {α : Type} {cs : Array α} (h : cs.size = 6) : ∃ c0 c1 c2 c3 c4 c5, cs = #[c0, c1, c2, c3, c4, c5] := by
  obtain ⟨l⟩ := cs
  match l, h with
  | [c0, c1, c2, c3, c4, c5], _ => exact ⟨c0, c1, c2, c3, c4, c5, rfl⟩
theorem trod_three {H : Type} {enc : TypeId × Value → H} {w : World} {t : TypeId} {f0 f1 f2 : Field} {fuel : Nat} {cs : List Value} {x : DataW H × List MemPlace} (ht : Tryd.prog.underlying t = some (.struct #[f0, f1, f2])) (h : DataW.trod enc Tryd.prog w 0 (fun _ => true) true fuel t cs = some x) :
    ∃ y0 y1 y2 n, DataW.trod enc Tryd.prog w 0 (fun _ => true) true n f0.type ((cs.drop f0.offset).take (Tryd.prog.cellsOf f0.type)) = some y0 ∧ DataW.trod enc Tryd.prog w 0 (fun _ => true) true n f1.type ((cs.drop f1.offset).take (Tryd.prog.cellsOf f1.type)) = some y1 ∧ DataW.trod enc Tryd.prog w 0 (fun _ => true) true n f2.type ((cs.drop f2.offset).take (Tryd.prog.cellsOf f2.type)) = some y2 := by
  obtain ⟨xs, n, _, rfl, hl, hlen, hf⟩ := DataW.trod_struct ht h
  match xs, hlen with
  | [y0, y1, y2], _ => exact ⟨y0, y1, y2, n, by simpa using hf 0 f0 rfl, by simpa using hf 1 f1 rfl, by simpa using hf 2 f2 rfl⟩
set_option maxRecDepth 100000 in
theorem old_open {H : Type} {enc : TypeId × Value → H} {w : World} {r : Reach} {b0 : Nat} {v : Value} {d : DataW H} {p : List MemPlace} (hv : Value.okWide Tryd.prog w r b0 45 v) (h : DataW.Trod enc Tryd.prog w 0 (fun _ => true) true 45 v d p) :
    ∃ (co ki : Int) (A : Option Addr) (n c : Nat) (zs : List Int) (s : ByteArray) (po : Int) (us : ByteArray), v = .agg #[.int .i64 co, .int .i64 ki, .slice A n c, .string s, .int .i64 po, .string us] ∧ (Rd w A n (zs.map (Value.int .i64)) ∧ n ≤ c ∧ c ≤ maxLen) ∧ s.size ≤ maxLen ∧ us.size ≤ maxLen := by
  obtain ⟨cs, rfl, hsz⟩ := okWide_struct Tryd.underlying45 hv
  have e6 : Tryd.prog.cellsOf 45 = 6 := by kernel_rfl
  obtain ⟨c0, c1, c2, c3, c4, c5, rfl⟩ := array6 (hsz.trans e6)
  obtain ⟨fuel, hf⟩ := h
  have ei : Tryd.prog.cellsOf 3 = 1 := by kernel_rfl
  have ea : Tryd.prog.cellsOf 43 = 4 := by kernel_rfl
  have es : Tryd.prog.cellsOf 9 = 1 := by kernel_rfl
  have el : Tryd.prog.cellsOf 22 = 1 := by kernel_rfl
  have hf' : DataW.trod enc Tryd.prog w 0 (fun _ => true) true fuel 45 [c0, c1, c2, c3, c4, c5] = some (d, p) := hf
  obtain ⟨y0, y1, y2, n, h0, h1, h2⟩ := trod_three Tryd.underlying45 hf'
  rw [ei] at h0
  rw [ea] at h1
  rw [es] at h2
  have h0 : DataW.trod enc Tryd.prog w 0 (fun _ => true) true n 3 [c0] = some y0 := h0
  have h1 : DataW.trod enc Tryd.prog w 0 (fun _ => true) true n 43 [c1, c2, c3, c4] = some y1 := h1
  have h2 : DataW.trod enc Tryd.prog w 0 (fun _ => true) true n 9 [c5] = some y2 := h2
  obtain ⟨x0, x1, x2, x3, k, _, _, g0, g1, g2, g3⟩ := trod_struct4 Tryd.underlying43 h1
  rw [ei] at g0 g3
  rw [el] at g1
  rw [es] at g2
  have g0 : DataW.trod enc Tryd.prog w 0 (fun _ => true) true k 3 [c1] = some x0 := g0
  have g1 : DataW.trod enc Tryd.prog w 0 (fun _ => true) true k 22 [c2] = some x1 := g1
  have g2 : DataW.trod enc Tryd.prog w 0 (fun _ => true) true k 9 [c3] = some x2 := g2
  have g3 : DataW.trod enc Tryd.prog w 0 (fun _ => true) true k 3 [c4] = some x3 := g3
  obtain ⟨co, e0, _, _⟩ := DataW.trod_int Tryd.underlying3 h0
  obtain ⟨us, e5, _, hus⟩ := DataW.trod_string Tryd.underlying9 h2
  obtain ⟨ki, e1, _, _⟩ := DataW.trod_int Tryd.underlying3 g0
  obtain ⟨A, m, c, zs, rfl, hr⟩ := rd_cell Tryd.underlying22 Tryd.underlying3 (by kernel_rfl) g1
  obtain ⟨s, e3, _, hs⟩ := DataW.trod_string Tryd.underlying9 g2
  obtain ⟨po, e4, _, _⟩ := DataW.trod_int Tryd.underlying3 g3
  injection e0 with e0
  injection e1 with e1
  injection e3 with e3
  injection e4 with e4
  injection e5 with e5
  subst e0 e1 e3 e4 e5
  exact ⟨co, ki, A, m, c, zs, s, po, us, rfl, hr, hs, hus⟩
end Go.Proofs.YtjlgkepbflcefaaDoor
