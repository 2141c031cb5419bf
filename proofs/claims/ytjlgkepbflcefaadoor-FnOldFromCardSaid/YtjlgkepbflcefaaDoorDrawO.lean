/- The functions that draw requests of the fourth version. No condition. -/
import Derived.Test.YtjlgkepbflcefaaDoorDrawA
import Derived.Test.YtjlgkepbflcefaaDoorOd
namespace Go.Proofs.YtjlgkepbflcefaaDoor
open Go.RowKit
/-- A request that is drawn. -/
def DrewOd (w : World) (g m : Nat) (e : Ending) (w' : World) : Prop := ∃ (x : Od) (A : Option Addr) (n c : Nat), e = .returned (odVal x A n c) ∧ (n ≤ 1000 ∧ x.to.name.size ≤ 1000 ∧ x.user.size ≤ 1000) ∧ w'.ownsRow w.heap.size 3 1 (.slice A n c) n (ints x.to.quad) ∧ Rdr w' g m ∧ w.grownBy w' (some g)
theorem grown_set6 {w w' : World} {g b : Nat} {v0 v1 v2 v3 v4 v5 : Value} (h : w.grownBy w' (some g)) (hb : w.heap.size ≤ b) : w.grownBy ((((((w'.setCell ⟨b, 0, none⟩ v0).setCell ⟨b, 1, none⟩ v1).setCell ⟨b, 2, none⟩ v2).setCell ⟨b, 3, none⟩ v3).setCell ⟨b, 4, none⟩ v4).setCell ⟨b, 5, none⟩ v5) (some g) :=
  grown_step (grown_step (grown_set4 h hb) (grown_set _ b 4 v4) (fun k hk => by injection hk with hk; omega)) (grown_set _ b 5 v5) (fun k hk => by injection hk with hk; omega)
theorem rdr_set6 {w : World} {g m b : Nat} (h : Rdr w g m) (hb : g < b) (v0 v1 v2 v3 v4 v5 : Value) : Rdr ((((((w.setCell ⟨b, 0, none⟩ v0).setCell ⟨b, 1, none⟩ v1).setCell ⟨b, 2, none⟩ v2).setCell ⟨b, 3, none⟩ v3).setCell ⟨b, 4, none⟩ v4).setCell ⟨b, 5, none⟩ v5) g m :=
  (((((h.set hb).set hb).set hb).set hb).set hb).set hb
set_option maxRecDepth 20000 in
set_option maxHeartbeats 2000000 in
theorem l91Old_any (g m : Nat) (w : World) (hr : Rdr w g m) (hm : m ≤ 70000) :
    Calls Tryd.prog 55 #[.pointer (some ⟨g, 0, none⟩)] w (DrewOd w g (m + 700)) := by
  have hlt := hr.lt
  go_enter Tryd.func55, Tryd.ntmps55
  go_wp2_with fail
  refine calls_gen fun wA hwA => ?_
  have k0 : wA.heap[w.heap.size]? = some (.cells #[.int .i64 0, .int .i64 0, .slice none 0 0, .string ⟨#[]⟩, .int .i64 0, .string ⟨#[]⟩] 39 (0, 0)) := by
    rw [hwA]
    exact heap_alloc_new w _
  have hG0 : w.grownBy wA (some g) := by rw [hwA]; exact World.grownBy_alloc w _ _
  have hrA : Rdr wA g m := by rw [hwA]; exact hr.alloc _
  have hs0 : w.heap.size < wA.heap.size := by rw [hwA]; simp
  clear hwA
  refine (pick_any g m _ _ hrA (by omega) (by omega)).mono ?_
  rintro e w1 ⟨y, rfl, hy0, hy1, hr1, hg1⟩
  replace hy1 := hy1 (by omega)
  have hG1 := grown_trans hG0 hg1
  replace k0 := grown_row hg1 hs0 (by omega) k0
  have hs1 := Nat.lt_of_lt_of_le hs0 hg1.size
  clear hg1 hG0 hrA
  go_wp2_with fail
  refine (l91Address_any g _ _ hr1 (by omega)).mono ?_
  rintro e w2 ⟨a, A, n, c, rfl, hn, hnm, ho, hr2, hg2⟩
  have hG2 := grown_trans hG1 hg2
  replace k0 := grown_row hg2 hs1 (by omega) k0
  have hs2 := Nat.lt_of_lt_of_le hs1 hg2.size
  have hs12 := hg2.size
  clear hg2 hG1 hr1
  go_wp2_with fail
  refine (l91User_any g _ _ hr2 (by omega)).mono ?_
  rintro e w3 ⟨us, rfl, hus, hr3, hg3⟩
  have hG3 := grown_trans hG2 hg3
  replace k0 := grown_row hg3 hs2 (by omega) k0
  replace ho := own_pick ho hg3 (by have := hr2.lt; omega)
  have hs3 := Nat.lt_of_lt_of_le hs2 hg3.size
  have hs23 := hg3.size
  clear hg3 hG2 hr2
  go_wp2_with fail
  refine calls_gen fun wC hwC => ?_
  generalize (1 : Int) + y = cm at hwC
  have k3 : wC.heap[w3.heap.size]? = some (.cells #[.int .i64 cm, .int .i64 a.kind, .slice A n c, .string a.name, .int .i64 a.port, .string us] 39 (0, 0)) := by
    rw [hwC]
    exact heap_alloc_new w3 _
  have hgC : w3.grownBy wC (some g) := by rw [hwC]; exact World.grownBy_alloc w3 _ _
  have hrC : Rdr wC g (m + 1 + 600 + 2) := by rw [hwC]; exact hr3.alloc _
  have hsC : wC.heap.size = w3.heap.size + 1 := by rw [hwC]; simp
  replace ho := own_pick ho hgC (by omega)
  clear hwC
  have hGC := grown_trans hG3 hgC
  replace k0 := grown_row hgC hs3 (by omega) k0
  have hg3 : w3.heap.size ≠ g := by have := hr3.lt; omega
  have hg3' : g < w3.heap.size := hr3.lt
  clear hG3 hgC hr3
  refine (pick_any g _ _ _ hrC (by omega) (by omega)).mono ?_
  rintro e w4 ⟨z, rfl, _, _, hr4, hg4⟩
  have hG4 := grown_trans hGC hg4
  replace k0 := grown_row hg4 (by omega) (by omega) k0
  replace k3 := grown_row hg4 (by omega) hg3 k3
  replace ho := own_pick ho hg4 (by omega)
  have hs4 : w3.heap.size < w4.heap.size := by have := hg4.size; omega
  clear hg4 hGC hrC
  by_cases hz : z = 0
  · subst hz
    have kB := heap_alloc_old w4 (.cells #[.int .i64 0, .int .i64 3] 3) (show w.heap.size < w4.heap.size by omega)
    have hrd := rd_lit w4 3 #[.int .i64 0, .int .i64 3] 2 (by omega) rfl
    have hgB : w4.grownBy (w4.alloc (.cells #[.int .i64 0, .int .i64 3] 3)) (some g) := World.grownBy_alloc w4 _ _
    go_wp2_with fail
    refine (pick_any g _ _ _ (hr4.alloc _) (by omega) (by omega)).mono ?_
    rintro e w5 ⟨j, rfl, hj0, hj1, hr5, hg5⟩
    replace hj1 := hj1 (by omega)
    obtain ⟨j, rfl⟩ := Int.eq_ofNat_of_zero_le hj0
    have hrd5 : Rd w5 (some ⟨w4.heap.size, 0, none⟩) 2 (ints [0, 3]) := hrd.grown hg5 (.inr (by simp; omega))
    have hg45 := grown_trans hgB hg5
    have hG5 := grown_trans hG4 hg45
    replace k0 := grown_row hg45 (by omega) (by omega) k0
    replace k3 := grown_row hg45 (by omega) hg3 k3
    replace ho := own_pick ho hg45 (by omega)
    have hs5 : w4.heap.size ≤ w5.heap.size := hg45.size
    generalize hA2 : (some (⟨w4.heap.size, 0, none⟩ : Addr)) = A2 at hrd5 ⊢
    obtain ⟨b1, o1, u, rfl, hu, hcu⟩ := hrd5.int (k := j) (by omega)
    clear hA2 hrd5 hg5 hg45 hG4 hgB hrd kB hr4 hu
    have hoB := own_set (g := w3.heap.size) (j := 0) (u := .int .i64 u) (own_base ho (B := w1.heap.size) (Nat.le_refl _))
    obtain ⟨c0, c1, c2, c3, c4, c5⟩ := six_cells k0
    obtain ⟨f0, f1, f2, f3, f4, f5⟩ := six_frozen k0
    obtain ⟨d0, d1, d2, d3, d4, d5⟩ := six_cells k3
    obtain ⟨e0, e1, e2, e3, e4, e5⟩ := six_frozen k3
    have hne3 : w3.heap.size ≠ w.heap.size := by omega
    have hne3' : w.heap.size ≠ w3.heap.size := by omega
    have hat : Value.ownBlock (.slice A n c) ≠ some w3.heap.size := own_apart_row ho k3 (by decide)
    have ho' : (w5.setCell ⟨w3.heap.size, 0, none⟩ (.int .i64 u)).ownsRow w1.heap.size 3 1 (.slice A n c) n (ints a.quad) := own_set_ne ho hat
    clear hoB
    replace k0 := Lib.hid k0
    replace k3 := Lib.hid k3
    go_wp2_with fail
    refine bodyPost_ret (v := odVal ⟨u, a, us⟩ A n c) (results_cell_row rfl _ _ w.heap.size 39 _ (0, 0) _ rfl (row_set6 (row_other k0.out hne3') _ _ _ _ _ _) Tryd.underlying39 rfl (by kernel_rfl)) rfl
      ⟨⟨u, a, us⟩, A, n, c, rfl, ⟨hn, hnm, hus⟩, own_base (own_set6 ho' (by omega) _ _ _ _ _ _) (by omega), (rdr_set6 (hr5.set hg3') (by omega) _ _ _ _ _ _).mono (by omega), grown_set6 (grown_step hG5 (grown_set _ w3.heap.size 0 _) (fun k hk => by injection hk with hk; omega)) (Nat.le_refl _)⟩
  · have hne : (z == 0) = false := by simpa using hz
    clear hz
    obtain ⟨c0, c1, c2, c3, c4, c5⟩ := six_cells k0
    obtain ⟨f0, f1, f2, f3, f4, f5⟩ := six_frozen k0
    obtain ⟨d0, d1, d2, d3, d4, d5⟩ := six_cells k3
    have hne3 : w3.heap.size ≠ w.heap.size := by omega
    have hne3' : w.heap.size ≠ w3.heap.size := by omega
    replace k0 := Lib.hid k0
    replace k3 := Lib.hid k3
    go_wp2_with fail
    refine bodyPost_ret (v := odVal ⟨cm, a, us⟩ A n c) (results_cell_row rfl _ _ w.heap.size 39 _ (0, 0) _ rfl (row_set6 k0.out _ _ _ _ _ _) Tryd.underlying39 rfl (by kernel_rfl)) rfl
      ⟨⟨cm, a, us⟩, A, n, c, rfl, ⟨hn, hnm, hus⟩, own_base (own_set6 ho (by omega) _ _ _ _ _ _) (by omega), (rdr_set6 hr4 (by omega) _ _ _ _ _ _).mono (by omega), grown_set6 hG4 (Nat.le_refl _)⟩
/-- What a function that draws a request leaves. -/
def DrawnOd (w : World) (e : Ending) (w' : World) : Prop := ∃ (x : Od) (A : Option Addr) (n c : Nat), e = .returned (odVal x A n c) ∧ (n ≤ 1000 ∧ x.to.name.size ≤ 1000 ∧ x.user.size ≤ 1000) ∧ w'.ownsRow w.heap.size 3 1 (.slice A n c) n (ints x.to.quad) ∧ Below w.heap.size w w'
set_option maxRecDepth 20000 in
set_option maxHeartbeats 1000000 in
theorem drawOldBytes_any (A : Option Addr) (n c : Nat) (zs : List Int) (w : World) (hx : Rd w A n (zs.map (Value.int .u8))) (hc : n ≤ c) (hv : ∀ z ∈ zs, 0 ≤ z ∧ z ≤ 255) :
    Calls Tryd.prog 27 #[.slice A n c] w (DrawnOd w) := by
  go_enter Tryd.func27, Tryd.ntmps27
  go_wp2_with fail
  refine calls_gen fun wA hwA => ?_
  have k0 : wA.heap[w.heap.size]? = some (.cells #[.int .i64 0, .int .i64 0, .slice none 0 0, .string ⟨#[]⟩, .int .i64 0, .string ⟨#[]⟩] 39 (0, 0)) := by
    rw [hwA]
    exact heap_alloc_new w _
  have hBA : Below w.heap.size w wA := by rw [hwA]; go_grown
  have hsA : wA.heap.size = w.heap.size + 1 := by rw [hwA]; simp
  clear hwA
  refine (l6Open_any A n c zs _ (hx.below hBA) hc hv).mono ?_
  rintro e w1 ⟨g, rfl, hge, hr1, hb1⟩
  have hB1 : Below w.heap.size w w1 := bstep hBA hb1
  replace k0 := (hb1.block _ (by omega)).trans k0
  have hs1 := hb1.size
  clear hb1 hBA
  go_wp2_with fail
  refine (l91Old_any g 0 _ hr1 (by omega)).mono ?_
  rintro e w2 ⟨x, A2, n2, c2, rfl, hsz, ho, hr2, hg2⟩
  have hg2w : g < w1.heap.size := hr1.lt
  have hB2 : Below w.heap.size w w2 := bgrow hB1 hg2 fun k hk => by injection hk with hk; omega
  replace k0 := grown_row hg2 (by omega) (by omega) k0
  obtain ⟨c0, c1, c2', c3, c4, c5⟩ := six_cells k0
  obtain ⟨f0, f1, f2, f3, f4, f5⟩ := six_frozen k0
  replace k0 := Lib.hid k0
  clear hg2 hr1 hB1
  go_wp2_with fail
  refine bodyPost_ret (v := odVal x A2 n2 c2) (results_cell_row rfl _ _ w.heap.size 39 _ (0, 0) _ rfl (row_set6 k0.out _ _ _ _ _ _) Tryd.underlying39 rfl (by kernel_rfl)) rfl
    ⟨x, A2, n2, c2, rfl, hsz, own_base (own_set6 ho (by omega) _ _ _ _ _ _) (by omega), below_set6 hB2 (Nat.le_refl _) _ _ _ _ _ _⟩
end Go.Proofs.YtjlgkepbflcefaaDoor
