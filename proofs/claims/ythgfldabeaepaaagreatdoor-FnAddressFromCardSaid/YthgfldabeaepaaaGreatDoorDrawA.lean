/- The functions that draw addresses. No condition. -/
import Derived.Test.YthgfldabeaepaaaGreatDoorDrawQ
import Derived.Test.YthgfldabeaepaaaGreatDoorDrawH
import Derived.Test.YthgfldabeaepaaaGreatDoorAd
namespace Go.Proofs.YthgfldabeaepaaaGreatDoor
open Go.RowKit
/-- A number that is drawn. -/
def DrewInt (w : World) (g m : Nat) (e : Ending) (w' : World) : Prop := ∃ x : Int, e = .returned (.int .i64 x) ∧ Rdr w' g m ∧ w.grownBy w' (some g)
theorem l91Port_any (g m : Nat) (w : World) (hr : Rdr w g m) (hm : m ≤ 95000) :
    Calls Tryz.prog 30 #[.pointer (some ⟨g, 0, none⟩)] w (DrewInt w g (m + 10)) := by
  go_enter Tryz.func30, Tryz.ntmps30
  go_wp2_with fail
  refine (pick_any g m _ _ hr (by omega) (by omega)).mono ?_
  rintro e w1 ⟨x, rfl, _, _, hr1, hg1⟩
  by_cases hx : x = 0
  · subst hx
    go_wp2_with fail
    refine (pick_any g _ _ _ (hr1.alloc _) (by omega) (by omega)).mono ?_
    rintro e w2 ⟨y, rfl, h0, h1, hr2, hg2⟩
    replace h1 := h1 (by omega)
    obtain ⟨j, rfl⟩ := Int.eq_ofNat_of_zero_le h0
    have hG2 := grown_trans (grown_trans hg1 (World.grownBy_alloc w1 (.cells #[.int .i64 (-1), .int .i64 65536] 3) _)) hg2
    have hrd : Rd w2 (some ⟨w1.heap.size, 0, none⟩) 2 (ints [-1, 65536]) := (rd_lit w1 3 #[.int .i64 (-1), .int .i64 65536] 2 (by omega) rfl).grown hg2 (.inr (new_ne hr1))
    generalize hA2 : (some (⟨w1.heap.size, 0, none⟩ : Addr)) = A2 at hrd ⊢
    obtain ⟨b1, o1, u, rfl, hu, hcu⟩ := hrd.int (k := j) (by omega)
    clear hA2 hrd hg2 hr1 hg1 hu
    go_wp2_with fail
    go_ret
    exact ⟨u, rfl, hr2.mono (by omega), hG2⟩
  · have hne : (x == 0) = false := by simpa using hx
    clear hx
    go_wp2_with fail
    refine (pick_any g _ _ _ hr1 (by omega) (by omega)).mono ?_
    rintro e w2 ⟨z, rfl, _, _, hr2, hg2⟩
    have hG2 := grown_trans hg1 hg2
    clear hr1 hg1 hg2
    go_wp2_with fail
    refine (pick_any g _ _ _ (hr2.alloc _) (by omega) (by omega)).mono ?_
    rintro e w3 ⟨y, rfl, h0, h1, hr3, hg3⟩
    replace h1 := h1 (by omega)
    obtain ⟨j, rfl⟩ := Int.eq_ofNat_of_zero_le h0
    have hG3 := grown_trans (grown_trans hG2 (World.grownBy_alloc w2 (.cells #[.int .i64 0, .int .i64 80, .int .i64 443, .int .i64 65535, .int .i64 z] 3) _)) hg3
    have hrd : Rd w3 (some ⟨w2.heap.size, 0, none⟩) 5 (ints [0, 80, 443, 65535, z]) := (rd_lit w2 3 #[.int .i64 0, .int .i64 80, .int .i64 443, .int .i64 65535, .int .i64 z] 5 (by omega) rfl).grown hg3 (.inr (new_ne hr2))
    generalize hA2 : (some (⟨w2.heap.size, 0, none⟩ : Addr)) = A2 at hrd ⊢
    obtain ⟨b1, o1, u, rfl, hu, hcu⟩ := hrd.int (k := j) (by omega)
    clear hA2 hrd hg3 hr2 hG2 hu
    go_wp2_with fail
    go_ret
    exact ⟨u, rfl, hr3.mono (by omega), hG3⟩
/-- An address that is drawn. -/
def DrewAd (w : World) (g m : Nat) (e : Ending) (w' : World) : Prop := ∃ (a : Ad) (A : Option Addr) (n c : Nat), e = .returned (adVal a A n c) ∧ n ≤ 1000 ∧ a.name.size ≤ 1000 ∧ w'.ownsRow w.heap.size 3 1 (.slice A n c) n (ints a.quad) ∧ Rdr w' g m ∧ w.grownBy w' (some g)
theorem grown_row {w w' : World} {g b : Nat} {o : Obj} (hg : w.grownBy w' (some g)) (hb : b < w.heap.size) (hne : b ≠ g) (h : w.heap[b]? = some o) : w'.heap[b]? = some o := (hg.block b hb (by simpa using hne)).trans h
theorem box_frozen {w : World} {g : Nat} {cs : Array Value} {t : TypeId} (h : w.heap[g]? = some (.cells cs t (0, 0))) : w.frozen? ⟨g, 0, none⟩ = false ∧ w.frozen? ⟨g, 1, none⟩ = false ∧ w.frozen? ⟨g, 2, none⟩ = false ∧ w.frozen? ⟨g, 3, none⟩ = false :=
  ⟨frozen_of_row w g 0 _ _ h, frozen_of_row w g 1 _ _ h, frozen_of_row w g 2 _ _ h, frozen_of_row w g 3 _ _ h⟩
theorem grown_set4 {w w' : World} {g b : Nat} {v0 v1 v2 v3 : Value} (h : w.grownBy w' (some g)) (hb : w.heap.size ≤ b) : w.grownBy ((((w'.setCell ⟨b, 0, none⟩ v0).setCell ⟨b, 1, none⟩ v1).setCell ⟨b, 2, none⟩ v2).setCell ⟨b, 3, none⟩ v3) (some g) :=
  grown_step (grown_step (grown_step (grown_step h (grown_set _ b 0 v0) (fun k hk => by injection hk with hk; omega)) (grown_set _ b 1 v1) (fun k hk => by injection hk with hk; omega)) (grown_set _ b 2 v2) (fun k hk => by injection hk with hk; omega)) (grown_set _ b 3 v3) (fun k hk => by injection hk with hk; omega)
theorem Rdr.set {w : World} {g m b j : Nat} {v : Value} (h : Rdr w g m) (hb : g < b) : Rdr (w.setCell ⟨b, j, none⟩ v) g m := h.grow (grown_set w b j v) fun k hk => by injection hk with hk; omega
set_option maxRecDepth 20000 in
set_option maxHeartbeats 2000000 in
theorem l91Address_any (g m : Nat) (w : World) (hr : Rdr w g m) (hm : m ≤ 80000) :
    Calls Tryz.prog 12 #[.pointer (some ⟨g, 0, none⟩)] w (DrewAd w g (m + 600)) := by
  have hlt := hr.lt
  go_enter Tryz.func12, Tryz.ntmps12
  go_wp2_with fail
  refine calls_gen fun wA hwA => ?_
  have k0 : wA.heap[w.heap.size]? = some (.cells #[.int .i64 0, .slice none 0 0, .string ⟨#[]⟩, .int .i64 0] 26 (0, 0)) := by
    rw [hwA]
    exact heap_alloc_new w _
  have hG0 : w.grownBy wA (some g) := by rw [hwA]; exact World.grownBy_alloc w _ _
  have hrA : Rdr wA g m := by rw [hwA]; exact hr.alloc _
  have hs0 : w.heap.size < wA.heap.size := by rw [hwA]; simp
  clear hwA
  refine (pick_any g m _ _ hrA (by omega) (by omega)).mono ?_
  rintro e w1 ⟨x, rfl, _, _, hr1, hg1⟩
  have hG1 := grown_trans hG0 hg1
  replace k0 := grown_row hg1 hs0 (by omega) k0
  have hs1 := Nat.lt_of_lt_of_le hs0 hg1.size
  clear hg1 hG0 hrA
  by_cases hx : x = 0
  · subst hx
    go_wp2_with fail
    refine (l91Quad_any g _ _ hr1 (by omega)).mono ?_
    rintro e w2 ⟨A, n, c, zs, rfl, hn, ho, hr2, hg2⟩
    have hG2 := grown_trans hG1 hg2
    replace k0 := grown_row hg2 hs1 (by omega) k0
    have hs2 := Nat.lt_of_lt_of_le hs1 hg2.size
    clear hg2 hG1 hr1
    go_wp2_with fail
    refine (l91Port_any g _ _ hr2 (by omega)).mono ?_
    rintro e w3 ⟨po, rfl, hr3, hg3⟩
    have hG3 := grown_trans hG2 hg3
    replace k0 := grown_row hg3 hs2 (by omega) k0
    replace ho := own_pick ho hg3 (by omega)
    have hs3 := Nat.lt_of_lt_of_le hs2 hg3.size
    clear hg3 hG2 hr2
    obtain ⟨c0, c1, c2, c3⟩ := box_cells k0
    obtain ⟨f0, f1, f2, f3⟩ := box_frozen k0
    replace k0 := Lib.hid k0
    go_wp2_with fail
    refine bodyPost_ret (v := adVal ⟨1, zs, ⟨#[]⟩, po⟩ A n c) (results_cell_row rfl _ _ w.heap.size 26 _ (0, 0) _ rfl (row_set (row_set (row_set (row_set k0.out 0 _) 1 _) 2 _) 3 _) Tryz.underlying26 rfl (by kernel_rfl)) rfl
      ⟨⟨1, zs, ⟨#[]⟩, po⟩, A, n, c, rfl, hn, (show (0 : Nat) ≤ 1000 by omega), own_base (own_set (own_set (own_set (own_set ho (by omega)) (by omega)) (by omega)) (by omega)) (by omega), (((hr3.set (by omega)).set (by omega)).set (by omega)).set (by omega) |>.mono (by omega), grown_set4 hG3 (Nat.le_refl _)⟩
  · have hne : (x == 0) = false := by simpa using hx
    clear hx
    go_wp2_with fail
    refine calls_gen fun wB hwB => ?_
    have hoB : wB.ownsRow w1.heap.size 3 1 (.slice (some ⟨w1.heap.size, 0, none⟩) 0 0) 0 (ints []) := by rw [hwB]; exact own_empty w1
    have hgB : w1.grownBy wB (some g) := by rw [hwB]; exact World.grownBy_alloc w1 _ _
    have hrB : Rdr wB g (m + 1) := by rw [hwB]; exact hr1.alloc _
    clear hwB
    have hGB := grown_trans hG1 hgB
    replace k0 := grown_row hgB hs1 (by omega) k0
    have hsB := Nat.lt_of_lt_of_le hs1 hgB.size
    have hs1B := hgB.size
    clear hgB hG1 hr1
    refine (l91Name_any g _ _ hrB (by omega)).mono ?_
    rintro e w2 ⟨s, rfl, hs, hr2, hg2⟩
    have hG2 := grown_trans hGB hg2
    replace k0 := grown_row hg2 hsB (by omega) k0
    replace hoB := own_pick hoB hg2 (by omega)
    have hs2 := Nat.lt_of_lt_of_le hsB hg2.size
    clear hg2 hGB hrB
    go_wp2_with fail
    refine (l91Port_any g _ _ hr2 (by omega)).mono ?_
    rintro e w3 ⟨po, rfl, hr3, hg3⟩
    have hG3 := grown_trans hG2 hg3
    replace k0 := grown_row hg3 hs2 (by omega) k0
    replace hoB := own_pick hoB hg3 (by omega)
    have hs3 := Nat.lt_of_lt_of_le hs2 hg3.size
    clear hg3 hG2 hr2
    go_wp2_with fail
    refine calls_gen fun wC hwC => ?_
    have k3 : wC.heap[w3.heap.size]? = some (.cells #[.int .i64 3, .slice (some ⟨w1.heap.size, 0, none⟩) 0 0, .string s, .int .i64 po] 26 (0, 0)) := by
      rw [hwC]
      exact heap_alloc_new w3 _
    have hgC : w3.grownBy wC (some g) := by rw [hwC]; exact World.grownBy_alloc w3 _ _
    have hrC : Rdr wC g (m + 1 + 2 + 10) := by rw [hwC]; exact hr3.alloc _
    have hsC : wC.heap.size = w3.heap.size + 1 := by rw [hwC]; simp
    clear hwC
    have hGC := grown_trans hG3 hgC
    replace k0 := grown_row hgC hs3 (by omega) k0
    clear hG3
    refine (pick_any g _ _ _ hrC (by omega) (by omega)).mono ?_
    rintro e w4 ⟨y, rfl, _, _, hr4, hg4⟩
    have hG4 := grown_trans hGC hg4
    have hg3 : w3.heap.size ≠ g := by have := hr3.lt; omega
    replace k0 := grown_row hg4 (by omega) (by omega) k0
    replace k3 := grown_row hg4 (by omega) hg3 k3
    have hs4 : w3.heap.size < w4.heap.size := by have := hg4.size; omega
    have hL4 := grown_trans hgC hg4
    clear hg4 hGC hrC hr3 hgC
    by_cases hy : y = 0
    · subst hy
      go_wp2_with fail
      refine (pick_any g _ _ _ hr4 (by omega) (by omega)).mono ?_
      rintro e w5 ⟨z, rfl, _, _, hr5, hg5⟩
      have hG5 := grown_trans hG4 hg5
      replace k0 := grown_row hg5 (by omega) (by omega) k0
      replace k3 := grown_row hg5 (by omega) hg3 k3
      have hoB5 := own_pick hoB (grown_step (grown_trans hL4 hg5) (grown_set w5 w3.heap.size 0 (.int .i64 z)) (fun k hk => by injection hk with hk; omega)) (by omega)
      clear hg5 hG4 hr4 hL4
      obtain ⟨c0, c1, c2, c3⟩ := box_cells k0
      obtain ⟨f0, f1, f2, f3⟩ := box_frozen k0
      obtain ⟨d0, d1, d2, d3⟩ := box_cells k3
      obtain ⟨e0, e1, e2, e3⟩ := box_frozen k3
      have hne3 : w3.heap.size ≠ w.heap.size := by omega
      have hne3' : w.heap.size ≠ w3.heap.size := by omega
      replace k0 := Lib.hid k0
      replace k3 := Lib.hid k3
      go_wp2_with fail
      refine bodyPost_ret (v := adVal ⟨z, [], s, po⟩ (some ⟨w1.heap.size, 0, none⟩) 0 0) (results_cell_row rfl _ _ w.heap.size 26 _ (0, 0) _ rfl (row_set (row_set (row_set (row_set (row_other k0.out hne3') 0 _) 1 _) 2 _) 3 _) Tryz.underlying26 rfl (by kernel_rfl)) rfl
        ⟨⟨z, [], s, po⟩, _, 0, 0, rfl, by omega, hs, own_base (own_set (own_set (own_set (own_set hoB5 (by omega)) (by omega)) (by omega)) (by omega)) (by omega), ((((hr5.set (by omega)).set (by omega)).set (by omega)).set (by omega)).set (by omega) |>.mono (by omega), grown_set4 (grown_step hG5 (grown_set _ w3.heap.size 0 _) (fun k hk => by injection hk with hk; omega)) (Nat.le_refl _)⟩
    · have hne' : (y == 0) = false := by simpa using hy
      replace hoB := own_pick hoB hL4 (by omega)
      clear hy hL4
      obtain ⟨c0, c1, c2, c3⟩ := box_cells k0
      obtain ⟨f0, f1, f2, f3⟩ := box_frozen k0
      obtain ⟨d0, d1, d2, d3⟩ := box_cells k3
      have hne3 : w3.heap.size ≠ w.heap.size := by omega
      have hne3' : w.heap.size ≠ w3.heap.size := by omega
      replace k0 := Lib.hid k0
      replace k3 := Lib.hid k3
      go_wp2_with fail
      refine bodyPost_ret (v := adVal ⟨3, [], s, po⟩ (some ⟨w1.heap.size, 0, none⟩) 0 0) (results_cell_row rfl _ _ w.heap.size 26 _ (0, 0) _ rfl (row_set (row_set (row_set (row_set k0.out 0 _) 1 _) 2 _) 3 _) Tryz.underlying26 rfl (by kernel_rfl)) rfl
        ⟨⟨3, [], s, po⟩, _, 0, 0, rfl, by omega, hs, own_base (own_set (own_set (own_set (own_set hoB (by omega)) (by omega)) (by omega)) (by omega)) (by omega), (((hr4.set (by omega)).set (by omega)).set (by omega)).set (by omega) |>.mono (by omega), grown_set4 hG4 (Nat.le_refl _)⟩
end Go.Proofs.YthgfldabeaepaaaGreatDoor
