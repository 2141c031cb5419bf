/- The address that bytes begin with, in the program and in the reference. No condition. -/
import Derived.Test.YtjlgkepbflcefaaDoorRAP
import Derived.Test.YtjlgkepbflcefaaDoorStep
import Derived.Deep.RegionWith
import Derived.StillTailTactics
namespace Go.Proofs.YtjlgkepbflcefaaDoor
open Go.RowKit
theorem results_cell3 {P : Program} {fn : Func} {p u v : Tmp} {ty : TypeId} (h : fn.results = #[.cell p ty, .tmp u, .tmp v]) (tmps : Array Value) (w : World) (g : Nat) (t : TypeId) (cs : Array Value) (fr : Nat × Nat) (d : TypeDesc)
    (hp : tmps.getD p undef = .pointer (some ⟨g, 0, none⟩)) (hg : w.heap[g]? = some (.cells cs t fr))
    (hu : P.underlying ty = some d) (hd : (match d with | .struct _ | .array _ _ => true | _ => false) = true) (hi : (P.info? ty).map (·.size) = some cs.size) :
    (results fn tmps).run P w = .ok (.tuple #[.agg cs, tmps.getD u undef, tmps.getD v undef]) w := by
  have hp' : tmps[p]?.getD undef = .pointer (some ⟨g, 0, none⟩) := by simpa using hp
  simp [results, h, hp', asAddr, run_loadVar_row w g t ty cs fr d hg hu hd hi]
/-- An address of the call's own, a number and whether it is so. -/
def RetAO (w : World) (a : Ad) (m : Nat) (b : Bool) (e : Ending) (w' : World) : Prop := ∃ A n c, e = .returned (.tuple #[adVal a A n c, .int .i64 m, .bool b]) ∧ n ≤ 4 ∧ a.name.size ≤ 255 ∧ w'.ownsRow w.heap.size 3 1 (.slice A n c) n (ints a.quad) ∧ Below w.heap.size w w'
set_option maxRecDepth 20000 in
set_option maxHeartbeats 4000000 in
theorem addressOf_impl (A : Option Addr) (n c : Nat) (zs : List Int) (w : World) (hM : EnvM w) (hx : Rd w A n (ints zs)) (hfl : Flat A n) (hc : n ≤ c) (hn : n ≤ 4000000) (a : Ad) (m : Nat) (b : Bool) (h : adO zs = (a, m, b)) :
    Calls Tryd.prog 17 #[.slice A n c] w (RetAO w a m b) := by
  replace h := Lib.hid h
  go_enter Tryd.func17, Tryd.ntmps17
  go_wp2_with fail
  refine calls_gen fun wA hwA => ?_
  have k0 : wA.heap[w.heap.size]? = some (.cells #[.int .i64 0, .slice none 0 0, .string ⟨#[]⟩, .int .i64 0] 24 (0, 0)) := by
    rw [hwA]
    exact heap_alloc_new w _
  have hBA : Below w.heap.size w wA := by rw [hwA]; go_grown
  have hsA : wA.heap.size = w.heap.size + 1 := by rw [hwA]; simp
  clear hwA
  refine (newReader_any A n c zs _ (hx.below hBA) hfl hc hn _ rfl).mono ?_
  rintro e w1 ⟨g, rfl, hge, hR1, hb1⟩
  have hB1 := bstep hBA hb1
  have hM1 := hM.step hB1
  replace k0 := (hb1.block _ (by omega)).trans k0
  have hs1 := hb1.size
  have hg1 := hR1.lt
  clear hb1 hBA hM hx
  go_wp2_with fail
  refine (address_any g zs 0 (!bv zs) _ hM1 hR1).mono ?_
  rintro e w2 ⟨a2, p2, f2, A2, n2, c2, hra, rfl, hn2, hname, ho2, hR2, hG2⟩
  have hB2 := bgrow hB1 hG2 fun k hk => by injection hk with hk; omega
  replace k0 := row_grown hG2 (by omega) (by omega) k0
  have hs2 := hG2.size
  have hfin := RA_adO hra
  rw [h.out] at hfin
  clear hra hG2 hB1 hM1 hR1 h
  obtain ⟨r, hr⟩ : ∃ r, (f2 || !adV a2) = r := ⟨_, rfl⟩
  rw [hr] at hfin hR2
  clear hr
  have k3 := heap_alloc_new w2 (.cells #[.int .i64 a2.kind, .slice A2 n2 c2, .string a2.name, .int .i64 a2.port] 24)
  have hBw := hB2.alloc (by omega) (.cells #[.int .i64 a2.kind, .slice A2 n2 c2, .string a2.name, .int .i64 a2.port] 24)
  replace k0 := (heap_alloc_old w2 (.cells #[.int .i64 a2.kind, .slice A2 n2 c2, .string a2.name, .int .i64 a2.port] 24) (by omega)).trans k0
  have hRw := hR2.alloc (.cells #[.int .i64 a2.kind, .slice A2 n2 c2, .string a2.name, .int .i64 a2.port] 24)
  have how := ho2.alloc (.cells #[.int .i64 a2.kind, .slice A2 n2 c2, .string a2.name, .int .i64 a2.port] 24)
  generalize hw3 : w2.alloc (.cells #[.int .i64 a2.kind, .slice A2 n2 c2, .string a2.name, .int .i64 a2.port] 24) = w3 at k0 k3 hBw hRw how
  obtain ⟨c0, c1, c2', c3⟩ := box_cells k3
  obtain ⟨f0, f1, f2', f3⟩ := frozen_box k0
  obtain ⟨d0, d1, d2, d3⟩ := box_cells k0
  obtain ⟨_, _, _, _, g1, g2, _, _, _⟩ := hRw.cells
  have hne : w2.heap.size ≠ w.heap.size := by omega
  have hne1 : g ≠ w.heap.size := by omega
  clear ho2 hR2 hB2
  replace k0 := Lib.hid k0
  replace k3 := Lib.hid k3
  cases r
  · simp only [Bool.false_eq_true, if_false, Prod.mk.injEq] at hfin
    obtain ⟨rfl, rfl, rfl⟩ := hfin
    have hBd : Below w.heap.size w w3.drew := ⟨hBw.os, hBw.tape, hBw.output, hBw.size, hBw.block⟩
    have hod : w3.drew.ownsRow w1.heap.size 3 1 (.slice A2 n2 c2) n2 (ints a.quad) := how
    go_wp2_with fail
    go_region
    all_goals
      go_wp2_with fail
      refine bodyPost_ret (results_cell3 rfl _ _ w.heap.size 24 _ (0, 0) _ rfl (row_set (row_set (row_set (row_set k0.out 0 _) 1 _) 2 _) 3 _) Tryd.underlying24 rfl (by kernel_rfl)) rfl ?_
      exact ⟨A2, n2, c2, rfl, hn2, hname, own_base (own_set (own_set (own_set (own_set hod (by omega)) (by omega)) (by omega)) (by omega)) (by omega), below_set (below_set (below_set (below_set hBd (Nat.le_refl _)) (Nat.le_refl _)) (Nat.le_refl _)) (Nat.le_refl _)⟩
  · simp only [if_true, Prod.mk.injEq] at hfin
    obtain ⟨rfl, rfl, rfl⟩ := hfin
    go_wp2_with fail
    refine bodyPost_ret (results_cell3 rfl _ _ w.heap.size 24 _ (0, 0) _ rfl (row_set (row_set (row_set (row_set k0.out 0 _) 1 _) 2 _) 3 _) Tryd.underlying24 rfl (by kernel_rfl)) rfl ?_
    exact ⟨none, 0, 0, rfl, by omega, (show (0 : Nat) ≤ 255 by omega), World.ownsRow_nil _ _ _ _, below_set (below_set (below_set (below_set hBw (Nat.le_refl _)) (Nat.le_refl _)) (Nat.le_refl _)) (Nat.le_refl _)⟩
end Go.Proofs.YtjlgkepbflcefaaDoor
