/- The program's reader reads texts, numbers and addresses. No condition. -/
import Derived.Test.YtjlgkepbflcefaaDoorRead
import Derived.Test.YtjlgkepbflcefaaDoorBText
import Derived.Test.YtjlgkepbflcefaaDoorAd
namespace Go.Proofs.YtjlgkepbflcefaaDoor
open Go.RowKit

/-- What an address that is read is, where it ends, and whether the reader has failed by then. -/
def RA (zs : List Int) (p : Nat) (f : Bool) (a : Ad) (p' : Nat) (f' : Bool) : Prop := ∃ k p1 f1, rB zs p f = (k, p1, f1) ∧
  ((k = 1 ∧ ∃ q p2 f2 d, rT zs p1 f1 4 = (q, p2, f2) ∧ rT zs p2 f2 2 = (d, p', f') ∧ a = ⟨1, q, ⟨#[]⟩, numOf d⟩) ∨
   (k = 3 ∧ ∃ l p2 f2 t p3 f3 d, rB zs p1 f1 = (l, p2, f2) ∧ rT zs p2 f2 l.toNat = (t, p3, f3) ∧ rT zs p3 f3 2 = (d, p', f') ∧ a = ⟨3, [], strOfNums t, numOf d⟩) ∨
   (k ≠ 1 ∧ k ≠ 3 ∧ ∃ d, rT zs p1 f1 2 = (d, p', f') ∧ a = ⟨k, [], ⟨#[]⟩, numOf d⟩))
theorem rB_bytes {zs : List Int} {p : Nat} {f : Bool} {y : Int} {p' : Nat} {f' : Bool} (h : rB zs p f = (y, p', f')) (hb : f = false → bv zs = true) : 0 ≤ y ∧ y ≤ 255 := rT_bytes (rB_take h) hb y (by simp)
theorem text_any (g : Nat) (zs : List Int) (p : Nat) (f : Bool) (w : World) (hr : Rin w g zs p f) (l : Int) (p1 : Nat) (f1 : Bool) (h1 : rB zs p f = (l, p1, f1)) (t : List Int) (p2 : Nat) (f2 : Bool) (h2 : rT zs p1 f1 l.toNat = (t, p2, f2)) :
    Calls Tryd.prog 75 #[.pointer (some ⟨g, 0, none⟩)] w fun e w' => e = .returned (.string (strOfNums t)) ∧ Rin w' g zs p2 f2 ∧ w.grownBy w' (some g) := by
  obtain ⟨hl0, hl1⟩ := rB_bytes h1 hr.bytes
  obtain ⟨k, rfl⟩ := Int.eq_ofNat_of_zero_le hl0
  replace h2 : rT zs p1 f1 k = (t, p2, f2) := h2
  have hlt := hr.lt
  replace h1 := Lib.hid h1
  replace h2 := Lib.hid h2
  go_enter Tryd.func75, Tryd.ntmps75
  go_wp2_with fail
  refine (byte_any g zs p f w hr _ _ _ h1.out).mono ?_
  rintro e w1 ⟨rfl, hR1, hG1⟩
  go_wp2_with fail
  refine (take_any g zs p1 f1 k _ hR1 (by omega) _ _ _ h2.out).mono ?_
  rintro e w2 ⟨A, c, rfl, ho, hR2, hG2⟩
  go_wp2_with fail
  refine (bytesText_fn A k c t _ (Rd.own ho) (by omega) (rT_bytes h2.out hR1.bytes)).mono ?_
  rintro e w3 ⟨rfl, hb3⟩
  go_wp2_with fail
  go_ret
  exact ⟨rfl, hR2.below hb3, grown_own (grown_trans hG1 hG2) hb3⟩
theorem numberR_any (g : Nat) (zs : List Int) (p : Nat) (f : Bool) (w : World) (hr : Rin w g zs p f) (d : List Int) (p1 : Nat) (f1 : Bool) (h1 : rT zs p f 2 = (d, p1, f1)) :
    Calls Tryd.prog 67 #[.pointer (some ⟨g, 0, none⟩), .int .i64 2] w fun e w' => e = .returned (.int .i64 (numOf d)) ∧ Rin w' g zs p1 f1 ∧ w.grownBy w' (some g) := by
  replace h1 := Lib.hid h1
  go_enter Tryd.func67, Tryd.ntmps67
  go_wp2_with fail
  refine (take_any g zs p f 2 _ hr (by omega) _ _ _ h1.out).mono ?_
  rintro e w2 ⟨A, c, rfl, ho, hR2, hG2⟩
  go_wp2_with fail
  refine (number_any A 2 c d _ (Rd.own ho) (by omega) (rT_bytes h1.out hr.bytes)).mono ?_
  rintro e w3 ⟨rfl, rfl⟩
  go_wp2_with fail
  go_ret
  exact ⟨rfl, hR2, hG2⟩
theorem row_grown {w w' : World} {g b : Nat} {o : Obj} (hg : w.grownBy w' (some g)) (hb : b < w.heap.size) (hne : b ≠ g) (h : w.heap[b]? = some o) : w'.heap[b]? = some o := (hg.block b hb (by simpa using hne)).trans h
theorem frozen_box {w : World} {g : Nat} {cs : Array Value} {t : TypeId} (h : w.heap[g]? = some (.cells cs t (0, 0))) : w.frozen? ⟨g, 0, none⟩ = false ∧ w.frozen? ⟨g, 1, none⟩ = false ∧ w.frozen? ⟨g, 2, none⟩ = false ∧ w.frozen? ⟨g, 3, none⟩ = false :=
  ⟨frozen_of_row w g 0 _ _ h, frozen_of_row w g 1 _ _ h, frozen_of_row w g 2 _ _ h, frozen_of_row w g 3 _ _ h⟩
theorem EnvM.rin {w w' : World} {g : Nat} {zs : List Int} {p : Nat} {f : Bool} (h : EnvM w) (hr : Rin w g zs p f) (hg : w.grownBy w' (some g)) : EnvM w' := by
  obtain ⟨m, hm⟩ := h
  refine ⟨m, hg.cell hm fun e => ?_⟩
  obtain ⟨A, n, c, h0, _⟩ := hr.cells
  injection e with e
  rw [← e] at h0
  rw [hm] at h0
  cases h0
/-- How the world stands while an address is read into the box behind the result's. -/
def AdSt (w W : World) (g : Nat) (zs : List Int) (p : Nat) (f : Bool) (cs : Array Value) : Prop :=
  Rin W g zs p f ∧ w.grownBy W (some g) ∧ W.heap[w.heap.size]? = some (.cells #[.int .i64 0, .slice none 0 0, .string ⟨#[]⟩, .int .i64 0] 24 (0, 0)) ∧ W.heap[w.heap.size + 1]? = some (.cells cs 24 (0, 0)) ∧ EnvM W ∧ w.heap.size + 2 ≤ W.heap.size ∧ g < w.heap.size ∧ 0 < w.heap.size
theorem AdSt.set {w W : World} {g : Nat} {zs : List Int} {p : Nat} {f : Bool} {cs : Array Value} (h : AdSt w W g zs p f cs) (j : Nat) (v : Value) : AdSt w (W.setCell ⟨w.heap.size + 1, j, none⟩ v) g zs p f (cs.setIfInBounds j v) := by
  obtain ⟨hR, hG, k0, k1, hM, hs, hg, hl⟩ := h
  refine ⟨hR.grow (grown_set W _ j v) (fun k hk => by injection hk with hk; omega), grown_step hG (grown_set W _ j v) (fun k hk => by injection hk with hk; omega), row_other k0 (by omega), row_set k1 j v, ?_, by simpa [World.setCell] using hs, hg, hl⟩
  obtain ⟨m, hm⟩ := hM
  refine ⟨m, (grown_set W (w.heap.size + 1) j v).cell hm fun e => ?_⟩
  injection e with e
  simp at e <;> omega
theorem AdSt.call {w W W' : World} {g : Nat} {zs : List Int} {p p' : Nat} {f f' : Bool} {cs : Array Value} (h : AdSt w W g zs p f cs) (hR' : Rin W' g zs p' f') (hg : W.grownBy W' (some g)) : AdSt w W' g zs p' f' cs := by
  obtain ⟨hR, hG, k0, k1, hM, hs, hgw, hl⟩ := h
  exact ⟨hR', grown_trans hG hg, row_grown hg (by omega) (by omega) k0, row_grown hg (by omega) (by omega) k1, hM.rin hR hg, by have := hg.size; omega, hgw, hl⟩
theorem AdSt.below {w W W' : World} {g : Nat} {zs : List Int} {p : Nat} {f : Bool} {cs : Array Value} (h : AdSt w W g zs p f cs) (hb : Below W.heap.size W W') : AdSt w W' g zs p f cs := h.call (h.1.below hb) (below_grown hb (some g))
theorem Rin.set {w : World} {g j b : Nat} {zs : List Int} {p : Nat} {f : Bool} {v : Value} (h : Rin w g zs p f) (hb : g < b) : Rin (w.setCell ⟨b, j, none⟩ v) g zs p f := h.grow (grown_set w b j v) fun k hk => by injection hk with hk; omega
theorem set4_grown {w w' : World} {g b : Nat} {v0 v1 v2 v3 : Value} (h : w.grownBy w' (some g)) (hb : w.heap.size ≤ b) : w.grownBy ((((w'.setCell ⟨b, 0, none⟩ v0).setCell ⟨b, 1, none⟩ v1).setCell ⟨b, 2, none⟩ v2).setCell ⟨b, 3, none⟩ v3) (some g) :=
  grown_step (grown_step (grown_step (grown_step h (grown_set _ b 0 v0) (fun k hk => by injection hk with hk; omega)) (grown_set _ b 1 v1) (fun k hk => by injection hk with hk; omega)) (grown_set _ b 2 v2) (fun k hk => by injection hk with hk; omega)) (grown_set _ b 3 v3) (fun k hk => by injection hk with hk; omega)
set_option maxRecDepth 20000 in
set_option maxHeartbeats 8000000 in
theorem address_any (g : Nat) (zs : List Int) (p : Nat) (f : Bool) (w : World) (hM : EnvM w) (hr : Rin w g zs p f) :
    Calls Tryd.prog 48 #[.pointer (some ⟨g, 0, none⟩)] w fun e w' => ∃ a p' f' A n c, RA zs p f a p' f' ∧ e = .returned (adVal a A n c) ∧ n ≤ 4 ∧ a.name.size ≤ 255 ∧ w'.ownsRow w.heap.size 3 1 (.slice A n c) n (ints a.quad) ∧ Rin w' g zs p' (f' || !adV a) ∧ w.grownBy w' (some g) := by
  have hlt := hr.lt
  obtain ⟨k, p1, f1, h1⟩ : ∃ k p1 f1, rB zs p f = (k, p1, f1) := ⟨_, _, _, rfl⟩
  replace h1 := Lib.hid h1
  go_enter Tryd.func48, Tryd.ntmps48
  go_wp2_with fail
  refine calls_gen fun wA hwA => ?_
  have S0 : AdSt w wA g zs p f #[.int .i64 0, .slice none 0 0, .string ⟨#[]⟩, .int .i64 0] := by
    have hBA : Below w.heap.size w wA := by rw [hwA]; go_grown
    refine ⟨hr.below hBA, below_grown hBA (some g), ?_, ?_, hM.step hBA, by rw [hwA]; simp, hlt, hM.lt⟩
    · rw [hwA, heap_alloc_old _ _ (by simp)]
      exact heap_alloc_new w _
    · rw [hwA]
      exact heap_alloc_new2 w _ _
  clear hwA hM hr
  refine (byte_any g zs p f _ S0.1 _ _ _ h1.out).mono ?_
  rintro e w1 ⟨rfl, hR1, hG1⟩
  have S1 := S0.call hR1 hG1
  clear S0 hR1 hG1
  obtain ⟨c0, c1, c2, c3⟩ := box_cells S1.2.2.2.1
  obtain ⟨e0, e1, e2, e3⟩ := frozen_box S1.2.2.2.1
  replace S1 := Lib.hid S1
  by_cases hk1 : k = 1
  case pos =>
    subst hk1
    obtain ⟨q, p2, f2, h2⟩ : ∃ q p2 f2, rT zs p1 f1 4 = (q, p2, f2) := ⟨_, _, _, rfl⟩
    obtain ⟨d, p3, f3, h3⟩ : ∃ d p3 f3, rT zs p2 f2 2 = (d, p3, f3) := ⟨_, _, _, rfl⟩
    replace h2 := Lib.hid h2
    replace h3 := Lib.hid h3
    go_wp2_with fail
    refine calls_gen fun wB hwB => ?_
    have S2 := S1.out.set 0 (.int .i64 1)
    rw [← hwB] at S2
    clear hwB c0 c1 c2 c3 e0 e1 e2 e3 S1
    refine (take_any g zs p1 f1 4 _ S2.1 (by omega) _ _ _ h2.out).mono ?_
    rintro e w2 ⟨A, c, rfl, ho, hR2, hG2⟩
    have hsz := S2.2.2.2.2.2.1
    have S3 := S2.call hR2 hG2
    clear S2 hR2 hG2
    obtain ⟨c0, c1, c2, c3⟩ := box_cells S3.2.2.2.1
    obtain ⟨e0, e1, e2, e3⟩ := frozen_box S3.2.2.2.1
    replace S3 := Lib.hid S3
    go_wp2_with fail
    refine calls_gen fun wC hwC => ?_
    have S4 := S3.out.set 1 (.slice A 4 c)
    have ho4 := own_set (g := w.heap.size + 1) (j := 1) (u := .slice A 4 c) ho (by omega)
    rw [← hwC] at S4 ho4
    clear hwC c0 c1 c2 c3 e0 e1 e2 e3 S3 ho
    refine (numberR_any g zs p2 f2 _ S4.1 _ _ _ h3.out).mono ?_
    rintro e w3 ⟨rfl, hR3, hG3⟩
    have S5 := S4.call hR3 hG3
    have ho5 := own_pick ho4 hG3 (by omega)
    clear S4 hR3 hG3 ho4
    obtain ⟨c0, c1, c2, c3⟩ := box_cells S5.2.2.2.1
    obtain ⟨e0, e1, e2, e3⟩ := frozen_box S5.2.2.2.1
    replace S5 := Lib.hid S5
    have hz : ByteArray.size ⟨#[]⟩ = 0 := rfl
    go_wp2_with fail
    refine calls_gen fun wD hwD => ?_
    have S6 := S5.out.set 3 (.int .i64 (numOf d))
    have ho6 := own_set (g := w.heap.size + 1) (j := 3) (u := .int .i64 (numOf d)) ho5 (by omega)
    rw [← hwD] at S6 ho6
    clear hwD c0 c1 c2 c3 e0 e1 e2 e3 S5 ho5
    obtain ⟨r, hr⟩ : ∃ r, adV ⟨1, q, ⟨#[]⟩, numOf d⟩ = r := ⟨_, rfl⟩
    refine (addressValid_impl ⟨1, q, ⟨#[]⟩, numOf d⟩ A 4 c _ S6.2.2.2.2.1 (Rd.own ho6) (by show ByteArray.size ⟨#[]⟩ ≤ _; omega) _ hr).mono ?_
    rintro e w4 ⟨rfl, hb4⟩
    have S7 := S6.below hb4
    have ho7 := own_below ho6 hb4
    clear S6 hb4 ho6
    obtain ⟨c0, c1, c2, c3⟩ := box_cells S7.2.2.2.1
    obtain ⟨d0, d1, d2, d3⟩ := box_cells S7.2.2.1
    obtain ⟨e0, e1, e2, e3⟩ := frozen_box S7.2.2.1
    obtain ⟨_, _, _, _, _, _, _, eg, _⟩ := S7.1.cells
    have hne1 : w.heap.size + 1 ≠ g := by omega
    have hne0 : w.heap.size ≠ g := by omega
    have hne1' : g ≠ w.heap.size + 1 := by omega
    have hne0' : g ≠ w.heap.size := by omega
    have hra : RA zs p f ⟨1, q, ⟨#[]⟩, numOf d⟩ p3 f3 := ⟨_, _, _, h1.out, .inl ⟨rfl, q, p2, f2, d, h2.out, h3.out, rfl⟩⟩
    replace hra := Lib.hid hra
    replace hr := Lib.hid hr
    have hR7 := S7.1
    have hG7 := S7.2.1
    have k7 := S7.2.2.1
    clear S7 h1
    replace k7 := Lib.hid k7
    cases r
    · have hG8 := grown_trans hG7 (grown_set w4 g 2 (.bool true))
      have hR8 := hR7.fail.1
      have ho8 := own_set (g := g) (j := 2) (u := .bool true) ho7 (by omega)
      go_wp2_with fail
      refine bodyPost_ret (v := adVal ⟨1, q, ⟨#[]⟩, numOf d⟩ A 4 c) (results_cell_row rfl _ _ w.heap.size 24 _ (0, 0) _ rfl (row_set (row_set (row_set (row_set (row_other k7.out hne0) 0 _) 1 _) 2 _) 3 _) Tryd.underlying24 rfl (by kernel_rfl)) rfl
        ⟨⟨1, q, ⟨#[]⟩, numOf d⟩, _, _, A, 4, c, hra.out, rfl, by omega, (by show ByteArray.size ⟨#[]⟩ ≤ _; omega), own_base (own_set (own_set (own_set (own_set ho8 (by omega)) (by omega)) (by omega)) (by omega)) (by omega), (by rw [hr.out]; simpa using (((hR8.set (by omega)).set (by omega)).set (by omega)).set (by omega)), set4_grown hG8 (Nat.le_refl _)⟩
    · go_wp2_with fail
      refine bodyPost_ret (v := adVal ⟨1, q, ⟨#[]⟩, numOf d⟩ A 4 c) (results_cell_row rfl _ _ w.heap.size 24 _ (0, 0) _ rfl (row_set (row_set (row_set (row_set k7.out 0 _) 1 _) 2 _) 3 _) Tryd.underlying24 rfl (by kernel_rfl)) rfl
        ⟨⟨1, q, ⟨#[]⟩, numOf d⟩, _, _, A, 4, c, hra.out, rfl, by omega, (by show ByteArray.size ⟨#[]⟩ ≤ _; omega), own_base (own_set (own_set (own_set (own_set ho7 (by omega)) (by omega)) (by omega)) (by omega)) (by omega), (by rw [hr.out]; simpa using (((hR7.set (by omega)).set (by omega)).set (by omega)).set (by omega)), set4_grown hG7 (Nat.le_refl _)⟩
  case neg =>
    by_cases hk3 : k = 3
    case pos =>
      subst hk3
      obtain ⟨l, p2, f2, h2⟩ : ∃ l p2 f2, rB zs p1 f1 = (l, p2, f2) := ⟨_, _, _, rfl⟩
      obtain ⟨t, p3, f3, h3⟩ : ∃ t p3 f3, rT zs p2 f2 l.toNat = (t, p3, f3) := ⟨_, _, _, rfl⟩
      obtain ⟨d, p4, f4, h4⟩ : ∃ d p4 f4, rT zs p3 f3 2 = (d, p4, f4) := ⟨_, _, _, rfl⟩
      have hz : ByteArray.size (strOfNums t) ≤ 255 := by
        have hl := rB_bytes h2 S1.out.1.bytes
        have ht := rT_length h3
        rw [strOfNums_size, ht]
        omega
      replace h2 := Lib.hid h2
      replace h3 := Lib.hid h3
      replace h4 := Lib.hid h4
      have hsz := S1.out.2.2.2.2.2.1
      go_wp2_with fail
      refine calls_gen fun wB hwB => ?_
      have S2 := S1.out.set 0 (.int .i64 3)
      rw [← hwB] at S2
      clear hwB c0 c1 c2 c3 e0 e1 e2 e3 S1
      refine (text_any g zs p1 f1 _ S2.1 _ _ _ h2.out _ _ _ h3.out).mono ?_
      rintro e w2 ⟨rfl, hR2, hG2⟩
      have S3 := S2.call hR2 hG2
      clear S2 hR2 hG2
      obtain ⟨c0, c1, c2, c3⟩ := box_cells S3.2.2.2.1
      obtain ⟨e0, e1, e2, e3⟩ := frozen_box S3.2.2.2.1
      replace S3 := Lib.hid S3
      go_wp2_with fail
      refine calls_gen fun wC hwC => ?_
      have S4 := S3.out.set 2 (.string (strOfNums t))
      rw [← hwC] at S4
      clear hwC c0 c1 c2 c3 e0 e1 e2 e3 S3
      refine (numberR_any g zs p3 f3 _ S4.1 _ _ _ h4.out).mono ?_
      rintro e w3 ⟨rfl, hR3, hG3⟩
      have S5 := S4.call hR3 hG3
      have ho5 : w3.ownsRow (w.heap.size + 2) 3 1 (.slice none 0 0) 0 (ints []) := World.ownsRow_nil _ _ _ _
      clear S4 hR3 hG3
      obtain ⟨c0, c1, c2, c3⟩ := box_cells S5.2.2.2.1
      obtain ⟨e0, e1, e2, e3⟩ := frozen_box S5.2.2.2.1
      replace S5 := Lib.hid S5
      go_wp2_with fail
      refine calls_gen fun wD hwD => ?_
      have S6 := S5.out.set 3 (.int .i64 (numOf d))
      have ho6 := own_set (g := w.heap.size + 1) (j := 3) (u := .int .i64 (numOf d)) ho5 (by omega)
      rw [← hwD] at S6 ho6
      clear hwD c0 c1 c2 c3 e0 e1 e2 e3 S5 ho5
      obtain ⟨r, hr⟩ : ∃ r, adV ⟨3, [], (strOfNums t), numOf d⟩ = r := ⟨_, rfl⟩
      refine (addressValid_impl ⟨3, [], (strOfNums t), numOf d⟩ none 0 0 _ S6.2.2.2.2.1 (Rd.own ho6) (by show ByteArray.size (strOfNums t) ≤ _; omega) _ hr).mono ?_
      rintro e w4 ⟨rfl, hb4⟩
      have S7 := S6.below hb4
      have ho7 := own_below ho6 hb4
      clear S6 hb4 ho6
      obtain ⟨c0, c1, c2, c3⟩ := box_cells S7.2.2.2.1
      obtain ⟨d0, d1, d2, d3⟩ := box_cells S7.2.2.1
      obtain ⟨e0, e1, e2, e3⟩ := frozen_box S7.2.2.1
      obtain ⟨_, _, _, _, _, _, _, eg, _⟩ := S7.1.cells
      have hne1 : w.heap.size + 1 ≠ g := by omega
      have hne0 : w.heap.size ≠ g := by omega
      have hne1' : g ≠ w.heap.size + 1 := by omega
      have hne0' : g ≠ w.heap.size := by omega
      have hra : RA zs p f ⟨3, [], (strOfNums t), numOf d⟩ p4 f4 := ⟨_, _, _, h1.out, .inr (.inl ⟨rfl, l, p2, f2, t, p3, f3, d, h2.out, h3.out, h4.out, rfl⟩)⟩
      replace hra := Lib.hid hra
      replace hr := Lib.hid hr
      have hR7 := S7.1
      have hG7 := S7.2.1
      have k7 := S7.2.2.1
      clear S7 h1
      replace k7 := Lib.hid k7
      cases r
      · have hG8 := grown_trans hG7 (grown_set w4 g 2 (.bool true))
        have hR8 := hR7.fail.1
        have ho8 := own_set (g := g) (j := 2) (u := .bool true) ho7 (by omega)
        go_wp2_with fail
        refine bodyPost_ret (v := adVal ⟨3, [], (strOfNums t), numOf d⟩ none 0 0) (results_cell_row rfl _ _ w.heap.size 24 _ (0, 0) _ rfl (row_set (row_set (row_set (row_set (row_other k7.out hne0) 0 _) 1 _) 2 _) 3 _) Tryd.underlying24 rfl (by kernel_rfl)) rfl
          ⟨⟨3, [], (strOfNums t), numOf d⟩, _, _, none, 0, 0, hra.out, rfl, by omega, (by show ByteArray.size (strOfNums t) ≤ _; omega), own_base (own_set (own_set (own_set (own_set ho8 (by omega)) (by omega)) (by omega)) (by omega)) (by omega), (by rw [hr.out]; simpa using (((hR8.set (by omega)).set (by omega)).set (by omega)).set (by omega)), set4_grown hG8 (Nat.le_refl _)⟩
      · go_wp2_with fail
        refine bodyPost_ret (v := adVal ⟨3, [], (strOfNums t), numOf d⟩ none 0 0) (results_cell_row rfl _ _ w.heap.size 24 _ (0, 0) _ rfl (row_set (row_set (row_set (row_set k7.out 0 _) 1 _) 2 _) 3 _) Tryd.underlying24 rfl (by kernel_rfl)) rfl
          ⟨⟨3, [], (strOfNums t), numOf d⟩, _, _, none, 0, 0, hra.out, rfl, by omega, (by show ByteArray.size (strOfNums t) ≤ _; omega), own_base (own_set (own_set (own_set (own_set ho7 (by omega)) (by omega)) (by omega)) (by omega)) (by omega), (by rw [hr.out]; simpa using (((hR7.set (by omega)).set (by omega)).set (by omega)).set (by omega)), set4_grown hG7 (Nat.le_refl _)⟩
    case neg =>
      have hb1 : (k == 1) = false := by simpa using hk1
      have hb3 : (k == 3) = false := by simpa using hk3
      obtain ⟨d, p2, f2, h2⟩ : ∃ d p2 f2, rT zs p1 f1 2 = (d, p2, f2) := ⟨_, _, _, rfl⟩
      replace h2 := Lib.hid h2
      have hsz := S1.out.2.2.2.2.2.1
      have hz : ByteArray.size ⟨#[]⟩ = 0 := rfl
      replace hk1 := Lib.hid hk1
      replace hk3 := Lib.hid hk3
      go_wp2_with fail
      refine calls_gen fun wB hwB => ?_
      have S2 := S1.out.set 0 (.int .i64 k)
      rw [← hwB] at S2
      clear hwB c0 c1 c2 c3 e0 e1 e2 e3 S1
      refine (numberR_any g zs p1 f1 _ S2.1 _ _ _ h2.out).mono ?_
      rintro e w3 ⟨rfl, hR3, hG3⟩
      have S5 := S2.call hR3 hG3
      have ho5 : w3.ownsRow (w.heap.size + 2) 3 1 (.slice none 0 0) 0 (ints []) := World.ownsRow_nil _ _ _ _
      clear S2 hR3 hG3
      obtain ⟨c0, c1, c2, c3⟩ := box_cells S5.2.2.2.1
      obtain ⟨e0, e1, e2, e3⟩ := frozen_box S5.2.2.2.1
      replace S5 := Lib.hid S5
      go_wp2_with fail
      refine calls_gen fun wD hwD => ?_
      have S6 := S5.out.set 3 (.int .i64 (numOf d))
      have ho6 := own_set (g := w.heap.size + 1) (j := 3) (u := .int .i64 (numOf d)) ho5 (by omega)
      rw [← hwD] at S6 ho6
      clear hwD c0 c1 c2 c3 e0 e1 e2 e3 S5 ho5
      obtain ⟨r, hr⟩ : ∃ r, adV ⟨k, [], ⟨#[]⟩, numOf d⟩ = r := ⟨_, rfl⟩
      refine (addressValid_impl ⟨k, [], ⟨#[]⟩, numOf d⟩ none 0 0 _ S6.2.2.2.2.1 (Rd.own ho6) (by show ByteArray.size ⟨#[]⟩ ≤ _; omega) _ hr).mono ?_
      rintro e w4 ⟨rfl, hb4⟩
      have S7 := S6.below hb4
      have ho7 := own_below ho6 hb4
      clear S6 hb4 ho6
      obtain ⟨c0, c1, c2, c3⟩ := box_cells S7.2.2.2.1
      obtain ⟨d0, d1, d2, d3⟩ := box_cells S7.2.2.1
      obtain ⟨e0, e1, e2, e3⟩ := frozen_box S7.2.2.1
      obtain ⟨_, _, _, _, _, _, _, eg, _⟩ := S7.1.cells
      have hne1 : w.heap.size + 1 ≠ g := by omega
      have hne0 : w.heap.size ≠ g := by omega
      have hne1' : g ≠ w.heap.size + 1 := by omega
      have hne0' : g ≠ w.heap.size := by omega
      have hra : RA zs p f ⟨k, [], ⟨#[]⟩, numOf d⟩ p2 f2 := ⟨_, _, _, h1.out, .inr (.inr ⟨hk1.out, hk3.out, d, h2.out, rfl⟩)⟩
      replace hra := Lib.hid hra
      replace hr := Lib.hid hr
      have hR7 := S7.1
      have hG7 := S7.2.1
      have k7 := S7.2.2.1
      clear S7 h1
      replace k7 := Lib.hid k7
      cases r
      · have hG8 := grown_trans hG7 (grown_set w4 g 2 (.bool true))
        have hR8 := hR7.fail.1
        have ho8 := own_set (g := g) (j := 2) (u := .bool true) ho7 (by omega)
        go_wp2_with fail
        refine bodyPost_ret (v := adVal ⟨k, [], ⟨#[]⟩, numOf d⟩ none 0 0) (results_cell_row rfl _ _ w.heap.size 24 _ (0, 0) _ rfl (row_set (row_set (row_set (row_set (row_other k7.out hne0) 0 _) 1 _) 2 _) 3 _) Tryd.underlying24 rfl (by kernel_rfl)) rfl
          ⟨⟨k, [], ⟨#[]⟩, numOf d⟩, _, _, none, 0, 0, hra.out, rfl, by omega, (by show ByteArray.size ⟨#[]⟩ ≤ _; omega), own_base (own_set (own_set (own_set (own_set ho8 (by omega)) (by omega)) (by omega)) (by omega)) (by omega), (by rw [hr.out]; simpa using (((hR8.set (by omega)).set (by omega)).set (by omega)).set (by omega)), set4_grown hG8 (Nat.le_refl _)⟩
      · go_wp2_with fail
        refine bodyPost_ret (v := adVal ⟨k, [], ⟨#[]⟩, numOf d⟩ none 0 0) (results_cell_row rfl _ _ w.heap.size 24 _ (0, 0) _ rfl (row_set (row_set (row_set (row_set k7.out 0 _) 1 _) 2 _) 3 _) Tryd.underlying24 rfl (by kernel_rfl)) rfl
          ⟨⟨k, [], ⟨#[]⟩, numOf d⟩, _, _, none, 0, 0, hra.out, rfl, by omega, (by show ByteArray.size ⟨#[]⟩ ≤ _; omega), own_base (own_set (own_set (own_set (own_set ho7 (by omega)) (by omega)) (by omega)) (by omega)) (by omega), (by rw [hr.out]; simpa using (((hR7.set (by omega)).set (by omega)).set (by omega)).set (by omega)), set4_grown hG7 (Nat.le_refl _)⟩
end Go.Proofs.YtjlgkepbflcefaaDoor
