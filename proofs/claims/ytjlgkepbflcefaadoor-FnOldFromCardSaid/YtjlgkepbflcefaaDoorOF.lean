/- The request that bytes begin with, in the program and in the reference. No condition. -/
import Derived.Test.YtjlgkepbflcefaaDoorUntil
import Derived.Test.YtjlgkepbflcefaaDoorOV
import Derived.Test.YtjlgkepbflcefaaDoorAO
import Derived.Test.YtjlgkepbflcefaaDoorStep
import Derived.Deep.RegionHeld3
namespace Go.Proofs.YtjlgkepbflcefaaDoor
open Go.RowKit
/-- A request of the call's own, a number and whether it is so. -/
def RetOO (w : World) (x : Od) (m : Nat) (b : Bool) (e : Ending) (w' : World) : Prop := ∃ A n c, e = .returned (.tuple #[odVal x A n c, .int .i64 m, .bool b]) ∧ n ≤ 4 ∧ (x.to.name.size ≤ 255 ∧ x.user.size ≤ 255) ∧ w'.ownsRow w.heap.size 3 1 (.slice A n c) n (ints x.to.quad) ∧ Below w.heap.size w w'
theorem cell_set6 {w : World} {g b j : Nat} {v0 v1 v2 v3 v4 v5 u : Value} (h : w.cell? ⟨b, j, none⟩ = some u) (hne : b ≠ g) :
    ((((((w.setCell ⟨g, 0, none⟩ v0).setCell ⟨g, 1, none⟩ v1).setCell ⟨g, 2, none⟩ v2).setCell ⟨g, 3, none⟩ v3).setCell ⟨g, 4, none⟩ v4).setCell ⟨g, 5, none⟩ v5).cell? ⟨b, j, none⟩ = some u :=
  (grown_set _ g 5 v5).cell ((grown_set _ g 4 v4).cell ((grown_set _ g 3 v3).cell ((grown_set _ g 2 v2).cell ((grown_set _ g 1 v1).cell ((grown_set _ g 0 v0).cell h (by simpa using hne)) (by simpa using hne)) (by simpa using hne)) (by simpa using hne)) (by simpa using hne)) (by simpa using hne)
theorem cell_drewn (w : World) (a : Addr) : w.drew.cell? a = w.cell? a := rfl
theorem cell_set6d {w : World} {g b j : Nat} {v0 v1 v2 v3 v4 v5 u : Value} (h : w.cell? ⟨b, j, none⟩ = some u) (hne : b ≠ g) :
    ((((((w.setCell ⟨g, 0, none⟩ v0).setCell ⟨g, 1, none⟩ v1).setCell ⟨g, 2, none⟩ v2).setCell ⟨g, 3, none⟩ v3).setCell ⟨g, 4, none⟩ v4).setCell ⟨g, 5, none⟩ v5).drew.cell? ⟨b, j, none⟩ = some u := by
  rw [cell_drewn]
  exact cell_set6 h hne
theorem heap_drewn (w : World) : w.drew.heap = w.heap := rfl
/-- The world where the walk has ended, by a name. -/
theorem post_gen {P : Program} {fn : Func} {Q : Ending → World → Prop} {ex : Exit} {a : Act} {w : World} (h : ∀ wA, wA = w → bodyPost P fn Q ex a wA) : bodyPost P fn Q ex a w := h w rfl
theorem rT_size {zs : List Int} {p k : Nat} {f : Bool} {ys : List Int} {p' : Nat} {f' : Bool} (h : rT zs p f k = (ys, p', f')) : ys.length = k := rT_length h
theorem rU_size {zs : List Int} {p : Nat} {f : Bool} {u : List Int} {p' : Nat} {f' : Bool} (h : rU zs p f = (u, p', f')) (hb : f = false → bv zs = true) : u.length ≤ 120 := by
  unfold rU at h
  split at h
  · injection h with h _
    subst h
    simp
  · rename_i hf
    have hz := (bv_true.1 (hb (by simpa using hf))).1
    split at h
    · rename_i v r hc
      injection h with h _
      subst h
      have := congrArg List.length (cut0_some hc).1
      simp at this
      omega
    · injection h with h _
      subst h
      simp
      omega
theorem rU_still {zs : List Int} {p : Nat} {f : Bool} {u : List Int} {p' : Nat} {f' : Bool} (h : rU zs p f = (u, p', f')) (hb : f = false → bv zs = true) : f' = false → bv zs = true := by
  intro hf
  subst hf
  exact hb (rU_ok h).1
set_option maxRecDepth 20000 in
set_option maxHeartbeats 8000000 in
theorem oldFrom_impl (A : Option Addr) (n c : Nat) (zs : List Int) (w : World) (hM : EnvM w) (hx : Rd w A n (ints zs)) (hfl : Flat A n) (hc : n ≤ c) (hn : n ≤ 4000000) (x : Od) (m : Nat) (b : Bool) (h : odO zs = (x, m, b)) :
    Calls Tryd.prog 38 #[.slice A n c] w (RetOO w x m b) := by
  replace h := Lib.hid h
  go_enter Tryd.func38, Tryd.ntmps38
  go_wp2_with fail
  refine calls_gen fun wA hwA => ?_
  have k0 : wA.heap[w.heap.size]? = some (.cells #[.int .i64 0, .int .i64 0, .slice none 0 0, .string ⟨#[]⟩, .int .i64 0, .string ⟨#[]⟩] 39 (0, 0)) := by
    rw [hwA]
    exact heap_alloc_new w _
  have hBA : Below w.heap.size w wA := by rw [hwA]; go_grown
  have hsA : wA.heap.size = w.heap.size + 1 := by rw [hwA]; simp
  clear hwA
  refine (newReader_any A n c zs _ (hx.below hBA) hfl hc hn _ rfl).mono ?_
  rintro e w1 ⟨g, rfl, hge, hR1, hb1⟩
  have hB1 := bstep hBA hb1
  replace k0 := (hb1.block _ (by omega)).trans k0
  have hs1 := hb1.size
  have hg1 := hR1.lt
  clear hb1 hBA hx
  have hbv0 : (!bv zs) = false → bv zs = true := by simp
  obtain ⟨v, p1, f1, h1⟩ : ∃ v p1 f1, rT zs 0 (!bv zs) 1 = (v, p1, f1) := ⟨_, _, _, rfl⟩
  obtain ⟨fx, hfx⟩ : ∃ fx, (f1 || !decide (v = [4])) = fx := ⟨_, rfl⟩
  obtain ⟨cm, p2, f2, h2⟩ : ∃ cm p2 f2, rB zs p1 fx = (cm, p2, f2) := ⟨_, _, _, rfl⟩
  obtain ⟨t, p3, f3, h3⟩ : ∃ t p3 f3, rT zs p2 f2 2 = (t, p3, f3) := ⟨_, _, _, rfl⟩
  obtain ⟨q, p4, f4, h4⟩ : ∃ q p4 f4, rT zs p3 f3 4 = (q, p4, f4) := ⟨_, _, _, rfl⟩
  obtain ⟨u, p5, f5, h5⟩ : ∃ u p5 f5, rU zs p4 f4 = (u, p5, f5) := ⟨_, _, _, rfl⟩
  replace h1 := Lib.hid h1
  replace h2 := Lib.hid h2
  replace h3 := Lib.hid h3
  replace h4 := Lib.hid h4
  replace h5 := Lib.hid h5
  replace hfx := Lib.hid hfx
  replace hbv0 := Lib.hid hbv0
  go_wp2_with fail
  refine calls_gen fun wB hwB => ?_
  have hlt1 : g < w1.heap.size := hg1
  have rd4 : Rd wB (some ⟨w1.heap.size, 0, none⟩) 1 (ints [4]) := by rw [hwB]; exact rd_lit w1 3 #[.int .i64 4] 1 (by omega) rfl
  have hb2 : Below w1.heap.size w1 wB := by rw [hwB]; go_grown
  clear hwB
  have hRB := hR1.below hb2
  have hBB := bstep hB1 hb2
  replace k0 := (hb2.block _ (by omega)).trans k0
  have hsB := hb2.size
  clear hb2 hB1 hR1
  refine (expect_any g zs 0 _ (some ⟨w1.heap.size, 0, none⟩) 1 1 [4] _ hRB rd4 (.inr (by simp; omega)) (by omega) _ _ _ h1.out).mono ?_
  rintro e w2 ⟨rfl, hR2, hG2⟩
  rw [hfx.out] at hR2
  have hB2 := bgrow hBB hG2 fun k hk => by injection hk with hk; omega
  replace k0 := row_grown hG2 (by omega) (by omega) k0
  have hs2 := hG2.size
  have hbv2 := hR2.bytes
  replace hbv2 := Lib.hid hbv2
  clear hG2 hBB hRB rd4
  go_wp2_with fail
  refine (byte_any g zs p1 fx _ hR2 _ _ _ h2.out).mono ?_
  rintro e w3 ⟨rfl, hR3, hG3⟩
  have hB3 := bgrow hB2 hG3 fun k hk => by injection hk with hk; omega
  replace k0 := row_grown hG3 (by omega) (by omega) k0
  have hs3 := hG3.size
  clear hG3 hB2 hR2
  go_wp2_with fail
  refine calls_gen fun wC hwC => ?_
  obtain ⟨bx, hbx⟩ : ∃ bx, bx = w3.heap.size := ⟨_, rfl⟩
  have kx : wC.heap[bx]? = some (.cells #[.int .i64 cm, .int .i64 0, .slice none 0 0, .string ⟨#[]⟩, .int .i64 0, .string ⟨#[]⟩] 39 (0, 0)) := by
    rw [hwC, hbx]
    exact heap_alloc_new w3 _
  have hb3 : Below w3.heap.size w3 wC := by rw [hwC]; go_grown
  have hsC : wC.heap.size = w3.heap.size + 1 := by rw [hwC]; simp
  clear hwC
  rw [← hbx]
  have hgx : g < bx := by have := hR3.lt; omega
  have hRC := hR3.below hb3
  have hBC := bstep hB3 hb3
  replace k0 := (hb3.block _ (by omega)).trans k0
  have hbxC : bx < wC.heap.size := by omega
  have hbx0 : w.heap.size < bx := by omega
  replace hbx := Lib.hid hbx
  clear hb3 hB3 hR3
  refine (numberR_any g zs p2 f2 _ hRC _ _ _ h3.out).mono ?_
  rintro e w4 ⟨rfl, hR4, hG4⟩
  have hB4 := bgrow hBC hG4 fun k hk => by injection hk with hk; omega
  replace k0 := row_grown hG4 (by omega) (by omega) k0
  replace kx := row_grown hG4 (by omega) (by omega) kx
  have hs4 := hG4.size
  clear hG4 hBC hRC
  go_wp2_with fail
  refine (take_any g zs p3 f3 4 _ hR4 (by omega) _ _ _ h4.out).mono ?_
  rintro e w5 ⟨Aq, cq, rfl, ow, hR5, hG5⟩
  have hB5 := bgrow hB4 hG5 fun k hk => by injection hk with hk; omega
  replace k0 := row_grown hG5 (by omega) (by omega) k0
  replace kx := row_grown hG5 (by omega) (by omega) kx
  have hs5 := hG5.size
  have hcapq := (own_cap ow).1
  have hbv5 := hR5.bytes
  replace hbv5 := Lib.hid hbv5
  clear hG5 hB4 hR4
  go_wp2_with fail
  refine (until_any g zs p4 f4 _ hR5 _ _ _ h5.out).mono ?_
  rintro e w6 ⟨rfl, hR6, hG6⟩
  have hB6 := bgrow hB5 hG6 fun k hk => by injection hk with hk; omega
  replace k0 := row_grown hG6 (by omega) (by omega) k0
  replace kx := row_grown hG6 (by omega) (by omega) kx
  replace ow := own_pick ow hG6 (by omega)
  have hs6 := hG6.size
  have hul : (strOfNums u).size ≤ 120 := by rw [strOfNums_size]; exact rU_size h5.out hbv5.out
  have hbv6 := hR6.bytes
  replace hbv6 := Lib.hid hbv6
  clear hG6 hB5 hR5
  obtain ⟨x0, x1, x2, x3, x4, x5⟩ := six_cells kx
  obtain ⟨e0, e1, e2, e3, e4, e5⟩ := six_frozen kx
  replace kx := Lib.hid kx
  replace k0 := Lib.hid k0
  go_wp2_with fail
  refine calls_gen fun wD hwD => ?_
  obtain ⟨w6', hw6'⟩ : ∃ w6' : World, w6' = ((((w6.setCell ⟨bx, 5, none⟩ (.string (strOfNums u))).setCell ⟨bx, 1, none⟩ (.int .i64 1)).setCell ⟨bx, 2, none⟩ (.slice Aq 4 cq)).setCell ⟨bx, 3, none⟩ (.string ⟨#[]⟩)).setCell ⟨bx, 4, none⟩ (.int .i64 (numOf t)) := ⟨_, rfl⟩
  rw [← hw6'] at hwD
  have kx6 : w6'.heap[bx]? = some (.cells #[.int .i64 cm, .int .i64 1, .slice Aq 4 cq, .string ⟨#[]⟩, .int .i64 (numOf t), .string (strOfNums u)] 39 (0, 0)) := by
    rw [hw6']
    exact row_set (row_set (row_set (row_set (row_set kx.out 5 _) 1 _) 2 _) 3 _) 4 _
  have k06 : w6'.heap[w.heap.size]? = some (.cells #[.int .i64 0, .int .i64 0, .slice none 0 0, .string ⟨#[]⟩, .int .i64 0, .string ⟨#[]⟩] 39 (0, 0)) := by
    rw [hw6']
    exact row_other (row_other (row_other (row_other (row_other k0.out (by omega)) (by omega)) (by omega)) (by omega)) (by omega)
  have ow6 : w6'.ownsRow w4.heap.size 3 1 (.slice Aq 4 cq) 4 (ints q) := by
    rw [hw6']
    exact own_set (own_set (own_set (own_set (own_set ow (by omega)) (by omega)) (by omega)) (by omega)) (by omega)
  have hB6' : Below w.heap.size w w6' := by
    rw [hw6']
    exact below_set (below_set (below_set (below_set (below_set hB6 (by omega)) (by omega)) (by omega)) (by omega)) (by omega)
  have hR6' : Rin w6' g zs p5 f5 := by
    rw [hw6']
    exact ((((hR6.set hgx).set hgx).set hgx).set hgx).set hgx
  have hs6' : w6'.heap.size = w6.heap.size := by rw [hw6']; simp [World.setCell]
  clear hw6' kx k0 ow hB6 hR6 x0 x1 x2 x3 x4 x5 e0 e1 e2 e3 e4 e5
  have hlitD : Rd wD (some ⟨w6.heap.size, 0, none⟩) 4 (ints [0, 0, 0, 1]) := by rw [hwD, ← hs6']; exact rd_lit w6' 3 #[.int .i64 0, .int .i64 0, .int .i64 0, .int .i64 1] 4 (by omega) rfl
  have hb7 : Below w6'.heap.size w6' wD := by rw [hwD]; go_grown
  clear hwD
  have kxD := (hb7.block _ (by omega)).trans kx6
  have k0D := (hb7.block _ (by omega)).trans k06
  have owD := own_below ow6 hb7
  have hBD := bstep hB6' hb7
  have hRD := hR6'.below hb7
  have hsD := hb7.size
  clear hb7 kx6 k06 ow6 hB6' hR6'
  refine (equal_int Aq _ 4 4 cq 4 q [0, 0, 0, 1] _ (Rd.own owD) hlitD).mono ?_
  rintro e wE ⟨rfl, q7, hwE⟩
  have kx : wE.heap[bx]? = some (.cells #[.int .i64 cm, .int .i64 1, .slice Aq 4 cq, .string ⟨#[]⟩, .int .i64 (numOf t), .string (strOfNums u)] 39 (0, 0)) := by rw [hwE]; exact kxD
  have k0 : wE.heap[w.heap.size]? = some (.cells #[.int .i64 0, .int .i64 0, .slice none 0 0, .string ⟨#[]⟩, .int .i64 0, .string ⟨#[]⟩] 39 (0, 0)) := by rw [hwE]; exact k0D
  have ow : wE.ownsRow w4.heap.size 3 1 (.slice Aq 4 cq) 4 (ints q) := by rw [hwE]; exact owD
  have hBE : Below w.heap.size w wE := by rw [hwE]; exact bdrewN hBD q7
  have hRE : Rin wE g zs p5 f5 := by rw [hwE]; exact hRD.drewN q7
  have hsE : wE.heap.size = wD.heap.size := by rw [hwE]; rfl
  clear hwE kxD k0D owD hBD hRD hlitD
  by_cases hq : q = [0, 0, 0, 1]
  case neg =>
    rw [decide_eq_false hq]
    have hro : RO zs (!bv zs) ⟨cm, ⟨1, q, ⟨#[]⟩, numOf t⟩, strOfNums u⟩ p5 f5 := ⟨v, p1, f1, cm, p2, f2, t, p3, f3, q, p4, f4, u, p5, f5, h1.out, by rw [hfx.out]; exact h2.out, h3.out, h4.out, h5.out, .inr ⟨hq, rfl, rfl, rfl⟩⟩
    replace hq := Lib.hid hq
    go_upto_region 9 with fail
    obtain ⟨wF, rfl⟩ : ∃ wF : World, wF = wE := ⟨_, rfl⟩
    have hRF := hRE
    have hBF := hBE
    clear hRE hBE
    obtain ⟨fF, rfl⟩ : ∃ fF, fF = f5 := ⟨_, rfl⟩
    have hz : ByteArray.size ⟨#[]⟩ = 0 := rfl
    have hfin := RO_odO hro
    rw [h.out] at hfin
    replace hro := Lib.hid hro
    obtain ⟨g0, g1, g2, g3, g4, g5⟩ := six_cells k0
    obtain ⟨f0, f1, f2, f3, f4, f5⟩ := six_frozen k0
    obtain ⟨x0, x1, x2, x3, x4, x5⟩ := six_cells kx
    obtain ⟨_, _, _, _, r1, r2, _, _, _⟩ := hRF.cells
    have hMF := hM.step hBF
    have hltF := hRF.lt
    cases fF
    case true =>
      simp only [Bool.true_or, if_true, Prod.mk.injEq] at hfin
      obtain ⟨rfl, rfl, rfl⟩ := hfin
      replace k0 := Lib.hid k0
      replace kx := Lib.hid kx
      go_wp2_with fail
      refine bodyPost_ret (results_cell3 rfl _ _ w.heap.size 39 _ (0, 0) _ rfl (row_set6 k0.out _ _ _ _ _ _) Tryd.underlying39 rfl (by kernel_rfl)) rfl ?_
      exact ⟨none, 0, 0, rfl, by omega, ⟨(show (0 : Nat) ≤ 255 by omega), (show (0 : Nat) ≤ 255 by omega)⟩, World.ownsRow_nil _ _ _ _, below_set6 hBF (Nat.le_refl _) _ _ _ _ _ _⟩
    case false =>
      simp only [Bool.false_or] at hfin
      obtain ⟨r, hr⟩ : ∃ r, odV ⟨cm, ⟨1, q, ⟨#[]⟩, numOf t⟩, strOfNums u⟩ = r := ⟨_, rfl⟩
      rw [hr] at hfin
      replace hr := Lib.hid hr
      replace hfin := Lib.hid hfin
      go_wp2_with fail
      refine (isOld_any ⟨cm, ⟨1, q, ⟨#[]⟩, numOf t⟩, strOfNums u⟩ Aq 4 cq _ hMF (Rd.own ow) hcapq (by show ByteArray.size ⟨#[]⟩ ≤ _; omega) (by show ByteArray.size (strOfNums u) ≤ _; omega) _ hr.out).mono ?_
      rintro e w10 ⟨rfl, hb10⟩
      have hBG := bstep hBF hb10
      have k0G := (hb10.block _ (by omega)).trans k0
      have kxG := (hb10.block _ (by omega)).trans kx
      have owG := own_below ow hb10
      have hRG := hRF.below hb10
      clear hb10 hBF k0 kx ow hRF hMF g0 g1 g2 g3 g4 g5 f0 f1 f2 f3 f4 f5 x0 x1 x2 x3 x4 x5 r1 r2
      obtain ⟨g0, g1, g2, g3, g4, g5⟩ := six_cells k0G
      obtain ⟨f0, f1, f2, f3, f4, f5⟩ := six_frozen k0G
      obtain ⟨x0, x1, x2, x3, x4, x5⟩ := six_cells kxG
      obtain ⟨_, _, _, _, r1, r2, _, _, _⟩ := hRG.cells
      have hne : bx ≠ w.heap.size := by omega
      have hne1 : g ≠ w.heap.size := by omega
      replace k0G := Lib.hid k0G
      replace kxG := Lib.hid kxG
      have hfin' := hfin.out
      cases r
      case false =>
        simp only [Bool.not_false, if_true, Prod.mk.injEq] at hfin'
        obtain ⟨rfl, rfl, rfl⟩ := hfin'
        clear hfin
        go_wp2_with fail
        refine bodyPost_ret (results_cell3 rfl _ _ w.heap.size 39 _ (0, 0) _ rfl (row_set6 k0G.out _ _ _ _ _ _) Tryd.underlying39 rfl (by kernel_rfl)) rfl ?_
        exact ⟨none, 0, 0, rfl, by omega, ⟨(show (0 : Nat) ≤ 255 by omega), (show (0 : Nat) ≤ 255 by omega)⟩, World.ownsRow_nil _ _ _ _, below_set6 hBG (Nat.le_refl _) _ _ _ _ _ _⟩
      case true =>
        simp only [Bool.not_true, Bool.false_eq_true, if_false, Prod.mk.injEq] at hfin'
        obtain ⟨rfl, rfl, rfl⟩ := hfin'
        clear hfin
        go_wp2_with fail
        go_region_held3 (fun w' => w'.cell? ⟨bx, 0, none⟩ = some (.int .i64 cm) ∧ w'.cell? ⟨bx, 1, none⟩ = some (.int .i64 1) ∧ w'.cell? ⟨bx, 2, none⟩ = some (.slice Aq 4 cq) ∧ w'.cell? ⟨bx, 3, none⟩ = some (.string ⟨#[]⟩) ∧ w'.cell? ⟨bx, 4, none⟩ = some (.int .i64 (numOf t)) ∧ w'.cell? ⟨bx, 5, none⟩ = some (.string (strOfNums u)) ∧ w'.cell? ⟨g, 1, none⟩ = some (.int .i64 (m : Int))) (first | (with_reducible exact ⟨cell_set6d x0 hne, cell_set6d x1 hne, cell_set6d x2 hne, cell_set6d x3 hne, cell_set6d x4 hne, cell_set6d x5 hne, cell_set6d r1 hne1⟩) | (with_reducible exact ⟨x0, x1, x2, x3, x4, x5, r1⟩) | exact ⟨x0, x1, x2, x3, x4, x5, r1⟩) (fail)
        all_goals
          go_wp2_with fail
          refine post_gen fun wZ hwZ => ?_
          have kZ : wZ.heap[w.heap.size]? = some (.cells (((((((#[.int .i64 0, .int .i64 0, .slice none 0 0, .string ⟨#[]⟩, .int .i64 0, .string ⟨#[]⟩].setIfInBounds 0 (.int .i64 cm)).setIfInBounds 1 (.int .i64 1)).setIfInBounds 2 (.slice Aq 4 cq)).setIfInBounds 3 (.string ⟨#[]⟩)).setIfInBounds 4 (.int .i64 (numOf t))).setIfInBounds 5 (.string (strOfNums u)))) 39 (0, 0)) := by
            rw [hwZ, heap_drewn]
            exact row_set6 k0G.out _ _ _ _ _ _
          have oZ := (own_set6 owG (g := w.heap.size) (by omega) (.int .i64 cm) (.int .i64 1) (.slice Aq 4 cq) (.string ⟨#[]⟩) (.int .i64 (numOf t)) (.string (strOfNums u))).drew
          have bZ := (below_set6 hBG (Nat.le_refl _) (.int .i64 cm) (.int .i64 1) (.slice Aq 4 cq) (.string ⟨#[]⟩) (.int .i64 (numOf t)) (.string (strOfNums u))).drew
          rw [← hwZ] at oZ bZ
          clear hwZ
          refine bodyPost_ret (results_cell3 rfl _ _ w.heap.size 39 _ (0, 0) _ rfl kZ Tryd.underlying39 rfl (by kernel_rfl)) rfl ?_
          exact ⟨Aq, 4, cq, rfl, by omega, ⟨(by show ByteArray.size ⟨#[]⟩ ≤ _; omega), (by show ByteArray.size (strOfNums u) ≤ _; omega)⟩, own_base oZ (by omega), bZ⟩
  case pos =>
    rw [decide_eq_true hq]
    subst hq
    obtain ⟨s, p6, f6, h6⟩ : ∃ s p6 f6, rU zs p5 f5 = (s, p6, f6) := ⟨_, _, _, rfl⟩
    have hro : RO zs (!bv zs) ⟨cm, ⟨3, [], strOfNums s, numOf t⟩, strOfNums u⟩ p6 f6 := ⟨v, p1, f1, cm, p2, f2, t, p3, f3, [0, 0, 0, 1], p4, f4, u, p5, f5, h1.out, by rw [hfx.out]; exact h2.out, h3.out, h4.out, h5.out, .inl ⟨rfl, s, h6, rfl⟩⟩
    replace h6 := Lib.hid h6
    replace hro := Lib.hid hro
    go_wp2_with fail
    refine (until_any g zs p5 f5 _ hRE _ _ _ h6.out).mono ?_
    rintro e w8 ⟨rfl, hR8, hG8⟩
    have hB8 := bgrow hBE hG8 fun k hk => by injection hk with hk; omega
    replace k0 := row_grown hG8 (by omega) (by omega) k0
    replace kx := row_grown hG8 (by omega) (by omega) kx
    have hs8 := hG8.size
    have hsl : (strOfNums s).size ≤ 120 := by rw [strOfNums_size]; exact rU_size h6.out hbv6.out
    clear hG8 hBE hRE ow
    obtain ⟨x0, x1, x2, x3, x4, x5⟩ := six_cells kx
    obtain ⟨e0, e1, e2, e3, e4, e5⟩ := six_frozen kx
    replace kx := Lib.hid kx
    replace k0 := Lib.hid k0
    go_upto_region 9 with fail
    refine code_gen fun wF hwF => ?_
    have kxF : wF.heap[bx]? = some (.cells #[.int .i64 cm, .int .i64 3, .slice none 0 0, .string (strOfNums s), .int .i64 (numOf t), .string (strOfNums u)] 39 (0, 0)) := by
      rw [hwF]
      exact row_set (row_set (row_set (row_set kx.out 1 _) 2 _) 3 _) 4 _
    have k0F : wF.heap[w.heap.size]? = some (.cells #[.int .i64 0, .int .i64 0, .slice none 0 0, .string ⟨#[]⟩, .int .i64 0, .string ⟨#[]⟩] 39 (0, 0)) := by
      rw [hwF]
      exact row_other (row_other (row_other (row_other k0.out (by omega)) (by omega)) (by omega)) (by omega)
    have hBF : Below w.heap.size w wF := by
      rw [hwF]
      exact below_set (below_set (below_set (below_set hB8 (by omega)) (by omega)) (by omega)) (by omega)
    have hRF : Rin wF g zs p6 f6 := by
      rw [hwF]
      exact (((hR8.set hgx).set hgx).set hgx).set hgx
    have hsF : wF.heap.size = w8.heap.size := by rw [hwF]; simp [World.setCell]
    clear hwF kx k0 hB8 hR8 x0 x1 x2 x3 x4 x5 e0 e1 e2 e3 e4 e5
    have kx := kxF
    have k0 := k0F
    clear kxF k0F
    have ow : wF.ownsRow wF.heap.size 3 1 (.slice none 0 0) 0 (ints []) := World.ownsRow_nil _ _ _ _
    obtain ⟨fF, rfl⟩ : ∃ fF, fF = f6 := ⟨_, rfl⟩
    replace hro := hro.out
    have hfin := RO_odO hro
    rw [h.out] at hfin
    replace hro := Lib.hid hro
    obtain ⟨g0, g1, g2, g3, g4, g5⟩ := six_cells k0
    obtain ⟨f0, f1, f2, f3, f4, f5⟩ := six_frozen k0
    obtain ⟨x0, x1, x2, x3, x4, x5⟩ := six_cells kx
    obtain ⟨_, _, _, _, r1, r2, _, _, _⟩ := hRF.cells
    have hMF := hM.step hBF
    have hltF := hRF.lt
    cases fF
    case true =>
      simp only [Bool.true_or, if_true, Prod.mk.injEq] at hfin
      obtain ⟨rfl, rfl, rfl⟩ := hfin
      replace k0 := Lib.hid k0
      replace kx := Lib.hid kx
      go_wp2_with fail
      refine bodyPost_ret (results_cell3 rfl _ _ w.heap.size 39 _ (0, 0) _ rfl (row_set6 k0.out _ _ _ _ _ _) Tryd.underlying39 rfl (by kernel_rfl)) rfl ?_
      exact ⟨none, 0, 0, rfl, by omega, ⟨(show (0 : Nat) ≤ 255 by omega), (show (0 : Nat) ≤ 255 by omega)⟩, World.ownsRow_nil _ _ _ _, below_set6 hBF (Nat.le_refl _) _ _ _ _ _ _⟩
    case false =>
      simp only [Bool.false_or] at hfin
      obtain ⟨r, hr⟩ : ∃ r, odV ⟨cm, ⟨3, [], strOfNums s, numOf t⟩, strOfNums u⟩ = r := ⟨_, rfl⟩
      rw [hr] at hfin
      replace hr := Lib.hid hr
      replace hfin := Lib.hid hfin
      go_wp2_with fail
      refine (isOld_any ⟨cm, ⟨3, [], strOfNums s, numOf t⟩, strOfNums u⟩ none 0 0 _ hMF (Rd.own ow) (Nat.le_refl 0) (by show ByteArray.size (strOfNums s) ≤ _; omega) (by show ByteArray.size (strOfNums u) ≤ _; omega) _ hr.out).mono ?_
      rintro e w10 ⟨rfl, hb10⟩
      have hBG := bstep hBF hb10
      have k0G := (hb10.block _ (by omega)).trans k0
      have kxG := (hb10.block _ (by omega)).trans kx
      have owG := own_below ow hb10
      have hRG := hRF.below hb10
      clear hb10 hBF k0 kx ow hRF hMF g0 g1 g2 g3 g4 g5 f0 f1 f2 f3 f4 f5 x0 x1 x2 x3 x4 x5 r1 r2
      obtain ⟨g0, g1, g2, g3, g4, g5⟩ := six_cells k0G
      obtain ⟨f0, f1, f2, f3, f4, f5⟩ := six_frozen k0G
      obtain ⟨x0, x1, x2, x3, x4, x5⟩ := six_cells kxG
      obtain ⟨_, _, _, _, r1, r2, _, _, _⟩ := hRG.cells
      have hne : bx ≠ w.heap.size := by omega
      have hne1 : g ≠ w.heap.size := by omega
      replace k0G := Lib.hid k0G
      replace kxG := Lib.hid kxG
      have hfin' := hfin.out
      cases r
      case false =>
        simp only [Bool.not_false, if_true, Prod.mk.injEq] at hfin'
        obtain ⟨rfl, rfl, rfl⟩ := hfin'
        clear hfin
        go_wp2_with fail
        refine bodyPost_ret (results_cell3 rfl _ _ w.heap.size 39 _ (0, 0) _ rfl (row_set6 k0G.out _ _ _ _ _ _) Tryd.underlying39 rfl (by kernel_rfl)) rfl ?_
        exact ⟨none, 0, 0, rfl, by omega, ⟨(show (0 : Nat) ≤ 255 by omega), (show (0 : Nat) ≤ 255 by omega)⟩, World.ownsRow_nil _ _ _ _, below_set6 hBG (Nat.le_refl _) _ _ _ _ _ _⟩
      case true =>
        simp only [Bool.not_true, Bool.false_eq_true, if_false, Prod.mk.injEq] at hfin'
        obtain ⟨rfl, rfl, rfl⟩ := hfin'
        clear hfin
        go_wp2_with fail
        go_region_held3 (fun w' => w'.cell? ⟨bx, 0, none⟩ = some (.int .i64 cm) ∧ w'.cell? ⟨bx, 1, none⟩ = some (.int .i64 3) ∧ w'.cell? ⟨bx, 2, none⟩ = some (.slice none 0 0) ∧ w'.cell? ⟨bx, 3, none⟩ = some (.string (strOfNums s)) ∧ w'.cell? ⟨bx, 4, none⟩ = some (.int .i64 (numOf t)) ∧ w'.cell? ⟨bx, 5, none⟩ = some (.string (strOfNums u)) ∧ w'.cell? ⟨g, 1, none⟩ = some (.int .i64 (m : Int))) (first | (with_reducible exact ⟨cell_set6d x0 hne, cell_set6d x1 hne, cell_set6d x2 hne, cell_set6d x3 hne, cell_set6d x4 hne, cell_set6d x5 hne, cell_set6d r1 hne1⟩) | (with_reducible exact ⟨x0, x1, x2, x3, x4, x5, r1⟩) | exact ⟨x0, x1, x2, x3, x4, x5, r1⟩) (fail)
        all_goals
          go_wp2_with fail
          refine post_gen fun wZ hwZ => ?_
          have kZ : wZ.heap[w.heap.size]? = some (.cells (((((((#[.int .i64 0, .int .i64 0, .slice none 0 0, .string ⟨#[]⟩, .int .i64 0, .string ⟨#[]⟩].setIfInBounds 0 (.int .i64 cm)).setIfInBounds 1 (.int .i64 3)).setIfInBounds 2 (.slice none 0 0)).setIfInBounds 3 (.string (strOfNums s))).setIfInBounds 4 (.int .i64 (numOf t))).setIfInBounds 5 (.string (strOfNums u)))) 39 (0, 0)) := by
            rw [hwZ, heap_drewn]
            exact row_set6 k0G.out _ _ _ _ _ _
          have oZ := (own_set6 owG (g := w.heap.size) (by omega) (.int .i64 cm) (.int .i64 3) (.slice none 0 0) (.string (strOfNums s)) (.int .i64 (numOf t)) (.string (strOfNums u))).drew
          have bZ := (below_set6 hBG (Nat.le_refl _) (.int .i64 cm) (.int .i64 3) (.slice none 0 0) (.string (strOfNums s)) (.int .i64 (numOf t)) (.string (strOfNums u))).drew
          rw [← hwZ] at oZ bZ
          clear hwZ
          refine bodyPost_ret (results_cell3 rfl _ _ w.heap.size 39 _ (0, 0) _ rfl kZ Tryd.underlying39 rfl (by kernel_rfl)) rfl ?_
          exact ⟨none, 0, 0, rfl, by omega, ⟨(by show ByteArray.size (strOfNums s) ≤ _; omega), (by show ByteArray.size (strOfNums u) ≤ _; omega)⟩, own_base oZ (by omega), bZ⟩
end Go.Proofs.YtjlgkepbflcefaaDoor
