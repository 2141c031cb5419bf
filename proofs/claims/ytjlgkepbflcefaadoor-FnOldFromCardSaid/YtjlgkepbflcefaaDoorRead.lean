/- The program's reader of bytes, a method at a time. No condition. -/
import Derived.Test.YtjlgkepbflcefaaDoorSlices
import Derived.Test.YtjlgkepbflcefaaDoorMake
import Derived.Test.YtjlgkepbflcefaaDoorBytes
import Derived.Test.YtjlgkepbflcefaaDoorRT
import Derived.StillTailTactics
namespace Go.Proofs.YtjlgkepbflcefaaDoor
open Go.RowKit

/-- Block g is a reader of zs, at p, which has failed or not. -/
def Rin (w : World) (g : Nat) (zs : List Int) (p : Nat) (f : Bool) : Prop := ∃ (A : Option Addr) (n c : Nat), w.heap[g]? = some (.cells #[.slice A n c, .int .i64 p, .bool f] 61 (0, 0)) ∧
  Rd w A n (ints zs) ∧ Flat A n ∧ (p ≤ n ∧ n ≤ c ∧ n ≤ 4000000) ∧ (f = false → bv zs = true) ∧ (n = 0 ∨ ∃ b, A.map (·.block) = some b ∧ b < g)
theorem Rin.lt {w : World} {g : Nat} {zs : List Int} {p : Nat} {f : Bool} (h : Rin w g zs p f) : g < w.heap.size := by
  obtain ⟨A, n, c, hg, _⟩ := h
  exact (Array.getElem?_eq_some_iff.1 hg).1
theorem Rin.bytes {w : World} {g : Nat} {zs : List Int} {p : Nat} {f : Bool} (h : Rin w g zs p f) : f = false → bv zs = true := by
  obtain ⟨A, n, c, _, _, _, _, hb, _⟩ := h
  exact hb
theorem Rin.place {w : World} {g : Nat} {zs : List Int} {p : Nat} {f : Bool} (h : Rin w g zs p f) : p ≤ zs.length ∧ zs.length ≤ 4000000 := by
  obtain ⟨A, n, c, _, hr, _, ⟨h1, _, h3⟩, _⟩ := h
  have := hr.ilen
  omega
/-- The reader's cells. -/
theorem Rin.cells {w : World} {g : Nat} {zs : List Int} {p : Nat} {f : Bool} (h : Rin w g zs p f) : ∃ (A : Option Addr) (n c : Nat), w.cell? ⟨g, 0, none⟩ = some (.slice A n c) ∧ w.cell? ⟨g, 1, none⟩ = some (.int .i64 p) ∧ w.cell? ⟨g, 2, none⟩ = some (.bool f) ∧
    w.frozen? ⟨g, 1, none⟩ = false ∧ w.frozen? ⟨g, 2, none⟩ = false ∧ Rd w A n (ints zs) ∧ Flat A n ∧ (p ≤ n ∧ n ≤ c ∧ n ≤ 4000000) := by
  obtain ⟨A, n, c, hg, hr, hfl, hn, _⟩ := h
  exact ⟨A, n, c, by rw [cell_of_row w g 0 _ _ _ hg]; rfl, by rw [cell_of_row w g 1 _ _ _ hg]; rfl, by rw [cell_of_row w g 2 _ _ _ hg]; rfl, frozen_of_row w g 1 _ _ hg, frozen_of_row w g 2 _ _ hg, hr, hfl, hn⟩
theorem Rin.below {w w' : World} {g : Nat} {zs : List Int} {p : Nat} {f : Bool} (h : Rin w g zs p f) (hb : Below w.heap.size w w') : Rin w' g zs p f := by
  have hlt := h.lt
  obtain ⟨A, n, c, hg, hr, h⟩ := h
  exact ⟨A, n, c, by rw [hb.block g hlt]; exact hg, hr.below hb, h⟩
theorem Rin.alloc {w : World} {g : Nat} {zs : List Int} {p : Nat} {f : Bool} (h : Rin w g zs p f) (o : Obj) : Rin (w.alloc o) g zs p f := h.below ((Below.refl _ _).alloc (Nat.le_refl _) o)
theorem Rin.drewN {w : World} {g : Nat} {zs : List Int} {p : Nat} {f : Bool} (h : Rin w g zs p f) (k : Nat) : Rin (w.drewN k) g zs p f := h
/-- Behind a store into a row that was made later than the reader. -/
theorem Rin.grow {w w' : World} {g : Nat} {zs : List Int} {p : Nat} {f : Bool} {row : Option Nat} (h : Rin w g zs p f) (hg : w.grownBy w' row) (hr : ∀ k, row = some k → g < k) : Rin w' g zs p f := by
  have hlt := h.lt
  obtain ⟨A, n, c, hg0, hrd, hfl, hn, hb, hne⟩ := h
  refine ⟨A, n, c, by rw [hg.block g hlt (fun e => by have := hr g e.symm; omega)]; exact hg0, hrd.grown hg ?_, hfl, hn, hb, hne⟩
  rcases hne with h0 | ⟨b, hb, hlt'⟩
  · exact .inl h0
  · exact .inr fun e => by rw [hb] at e; have := hr b e.symm; omega
/-- A part of what is read. -/
theorem Rd.part {w : World} {b off n : Nat} {zs : List Int} (h : Rd w (some ⟨b, off, none⟩) n (ints zs)) (k m : Nat) (hk : k + m ≤ n) : Rd w (some ⟨b, off + k, none⟩) m (ints ((zs.drop k).take m)) := by
  have hl := h.ilen
  refine ⟨by simp; omega, by have := h.max; omega, fun hm => ?_⟩
  obtain ⟨b', off', hA, hc⟩ := h.cells (by omega)
  injection hA with hA
  injection hA with h1 h2
  subst h1 h2
  refine ⟨_, _, rfl, fun j v hv => ?_⟩
  simp only [ints, List.getElem?_map] at hv
  rw [List.getElem?_take] at hv
  split at hv
  · rw [List.getElem?_drop] at hv
    cases hz : zs[k + j]? with
    | none => rw [hz] at hv; cases hv
    | some x =>
      rw [hz] at hv
      cases hv
      have := hc (k + j) x hz
      rwa [Nat.add_assoc]
  · cases hv
theorem grown_own {w w1 w2 : World} {row : Option Nat} (h : w.grownBy w1 row) (hb : Below w1.heap.size w1 w2) : w.grownBy w2 row := grown_trans h (below_grown hb row)

/-- The reader fails. -/
theorem Rin.fail {w : World} {g : Nat} {zs : List Int} {p : Nat} {f : Bool} (h : Rin w g zs p f) : Rin (w.setCell ⟨g, 2, none⟩ (.bool true)) g zs p true ∧ w.grownBy (w.setCell ⟨g, 2, none⟩ (.bool true)) (some g) := by
  obtain ⟨A, n, c, hg, hx, hfl, hp, _, hne⟩ := h
  refine ⟨⟨A, n, c, by rw [heap_setCell_same w g 2 _ _ _ hg]; rfl, hx.grown (grown_set w g 2 _) ?_, hfl, hp, (fun e => by cases e), hne⟩, grown_set w g 2 _⟩
  rcases hne with h0 | ⟨b, hb, hlt⟩
  · exact .inl h0
  · exact .inr (by rw [hb]; simp; omega)
theorem newReader_any (A : Option Addr) (n c : Nat) (zs : List Int) (w : World) (hx : Rd w A n (ints zs)) (hfl : Flat A n) (hc : n ≤ c) (hn : n ≤ 4000000) (r : Bool) (hr : bv zs = r) :
    Calls Tryd.prog 47 #[.slice A n c] w fun e w' => ∃ g, e = .returned (.pointer (some ⟨g, 0, none⟩)) ∧ w.heap.size ≤ g ∧ Rin w' g zs 0 (!r) ∧ Below w.heap.size w w' := by
  have hb : (!r) = false → bv zs = true := by rw [hr]; cases r <;> simp
  replace hr := Lib.hid hr
  replace hb := Lib.hid hb
  go_enter Tryd.func47, Tryd.ntmps47
  go_wp2_with (go_at_call 74; refine (bytesValid_impl _ _ _ _ _ hx _ hr.out).mono ?_; rintro e w' ⟨rfl, rfl⟩)
  go_ret
  exact ⟨_, rfl, Nat.le_refl _, ⟨A, n, c, heap_alloc_new w _, hx.alloc _, hfl, ⟨by omega, hc, hn⟩, hb.out, hx.under⟩, by go_grown⟩
set_option maxRecDepth 20000 in
set_option maxHeartbeats 1000000 in
theorem take_any (g : Nat) (zs : List Int) (p : Nat) (f : Bool) (k : Nat) (w : World) (hr : Rin w g zs p f) (hk : k ≤ 1000) (ys : List Int) (p' : Nat) (f' : Bool) (h : rT zs p f k = (ys, p', f')) :
    Calls Tryd.prog 68 #[.pointer (some ⟨g, 0, none⟩), .int .i64 k] w fun e w' => ∃ A' c', e = .returned (.slice A' k c') ∧ w'.ownsRow w.heap.size 3 1 (.slice A' k c') k (ints ys) ∧ Rin w' g zs p' f' ∧ w.grownBy w' (some g) := by
  have hlt := hr.lt
  have hst := rT_still h hr.bytes
  obtain ⟨A, n, c, hg, hx, hfl, ⟨hp, hnc, hn⟩, hbv, hne⟩ := hr
  have hl := hx.ilen
  have hc0 : w.cell? ⟨g, 0, none⟩ = some (.slice A n c) := by rw [cell_of_row w g 0 _ _ _ hg]; rfl
  have hc1 : w.cell? ⟨g, 1, none⟩ = some (.int .i64 p) := by rw [cell_of_row w g 1 _ _ _ hg]; rfl
  have hc2 : w.cell? ⟨g, 2, none⟩ = some (.bool f) := by rw [cell_of_row w g 2 _ _ _ hg]; rfl
  have hf1 : w.frozen? ⟨g, 1, none⟩ = false := frozen_of_row w g 1 _ _ hg
  have hf2 : w.frozen? ⟨g, 2, none⟩ = false := frozen_of_row w g 2 _ _ hg
  have hne' : n = 0 ∨ A.map (·.block) ≠ some g := by
    rcases hne with h0 | ⟨b, hb, hlt⟩
    · exact .inl h0
    · exact .inr (by rw [hb]; simp; omega)
  have hRb : Rin (w.setCell ⟨g, 2, none⟩ (.bool true)) g zs p true :=
    ⟨A, n, c, by rw [heap_setCell_same w g 2 _ _ _ hg]; rfl, hx.grown (grown_set w g 2 _) hne', hfl, ⟨hp, hnc, hn⟩, (fun e => by cases e), hne⟩
  have hGb := grown_set w g 2 (.bool true)
  rcases rT_cases h with ⟨rfl, hpk, rfl, rfl, rfl⟩ | ⟨hbad, rfl, rfl, rfl⟩
  · have hRg : Rin (w.setCell ⟨g, 1, none⟩ (.int .i64 ((p : Int) + (k : Int)))) g zs (p + k) false :=
      ⟨A, n, c, by rw [heap_setCell_same w g 1 _ _ _ hg, ← Int.natCast_add]; rfl, hx.grown (grown_set w g 1 _) hne', hfl, ⟨by omega, hnc, hn⟩, hbv, hne⟩
    have hGg := grown_set w g 1 (.int .i64 ((p : Int) + (k : Int)))
    have hd : decide ((n : Int) - (p : Int) < (k : Int)) = false := by simp; omega
    replace hRg := Lib.hid hRg
    replace hGg := Lib.hid hGg
    replace hst := Lib.hid hst
    clear hRb hGb hg hx hbv hne hne' hl h
    go_enter Tryd.func68, Tryd.ntmps68
    go_wp2_with (go_quiet (fail))
    have hR1 : Rin ((w.drewN nq).setCell ⟨g, 1, none⟩ (.int .i64 ((p : Int) + (k : Int)))) g zs (p + k) false := hRg.out
    have hG1 : w.grownBy ((w.drewN nq).setCell ⟨g, 1, none⟩ (.int .i64 ((p : Int) + (k : Int)))) (some g) := ⟨hGg.out.os, hGg.out.tape, hGg.out.output, hGg.out.size, hGg.out.block⟩
    clear hRg hGg hc0 hc1 hc2 hf1 hf2
    generalize (w.drewN nq).setCell ⟨g, 1, none⟩ (.int .i64 ((p : Int) + (k : Int))) = w1 at hR1 hG1 ⊢
    obtain ⟨A1, n1, c1, d0, d1, _, _, _, hx1, hfl1, hp1, hnc1, hn1⟩ := hR1.cells
    have hl1 := hx1.ilen
    rw [Int.natCast_add] at d1
    have hsub : (p : Int) + (k : Int) - (k : Int) = (p : Int) := by omega
    have hwr : IntKind.i64.wrap (p : Int) = (p : Int) := by rw [IntKind.wrap_i64]; omega
    have hw0 : IntKind.i64.wrap 0 = 0 := rfl
    have hle : (p : Int) + (k : Int) ≤ (c1 : Int) := by omega
    have hle0 : (p : Int) ≤ (p : Int) + (k : Int) := by omega
    have hle1 : (0 : Int) ≤ (p : Int) + (k : Int) := by omega
    rcases hfl1 with ⟨rfl, h0⟩ | ⟨b, off, rfl⟩
    · obtain rfl : k = 0 := by omega
      obtain rfl : p = 0 := by omega
      go_still_tail 15, (by kernel_rfl)
      change wpList _ _ _ _ _ w1.drew
      go_wp2_with fail
      have hz : zs = [] := List.eq_nil_of_length_eq_zero (by omega)
      subst hz
      refine (clone_int none 0 c1 [] _ (Rd.nil _ _) (by omega)).mono ?_
      rintro e w2 ⟨A2, n2, c2, rfl, ho2, hb2⟩
      obtain rfl : n2 = 0 := by have := (Rd.own ho2).ilen; simpa using this.symm
      have hsz := hG1.size
      go_wp2
      go_ret
      exact ⟨A2, c2, rfl, own_base ho2 hsz, hR1.below (below_drew hb2), grown_own hG1 (below_drew hb2)⟩
    · go_still_tail 15, (by kernel_rfl)
      change wpList _ _ _ _ _ w1.drew
      go_wp2_with fail
      have hsz := hG1.size
      · obtain rfl : k = 0 := by omega
        refine (clone_int (some ⟨b, off, none⟩) 0 0 [] _ (Rd.nil _ _) (by omega)).mono ?_
        rintro e w2 ⟨A2, n2, c2, rfl, ho2, hb2⟩
        obtain rfl : n2 = 0 := by have := (Rd.own ho2).ilen; simpa using this.symm
        go_wp2
        go_ret
        exact ⟨A2, c2, rfl, own_base ho2 hsz, hR1.below (below_drew hb2), grown_own hG1 (below_drew hb2)⟩
      · have hsz := hG1.size
        have hx2 : Rd w1.drew (some ⟨b, off + p, none⟩) k (ints ((zs.drop p).take k)) := hx1.part p k (by omega)
        refine (clone_int (some ⟨b, off + p, none⟩) k _ _ _ hx2 (by omega)).mono ?_
        rintro e w2 ⟨A2, n2, c2, rfl, ho2, hb2⟩
        obtain rfl : n2 = k := by have := (Rd.own ho2).ilen; simp at this; omega
        go_wp2
        go_ret
        exact ⟨A2, c2, rfl, own_base ho2 hsz, hR1.below (below_drew hb2), grown_own hG1 (below_drew hb2)⟩
  · replace hRb := Lib.hid hRb
    replace hGb := Lib.hid hGb
    clear hg hx hbv hne hne' hst h
    cases f with
    | true =>
      clear hbad
      go_enter Tryd.func68, Tryd.ntmps68
      go_wp2_with (first | (go_quiet (fail)) | (at_make; refine wpList_make_rd _ rfl _ _ rfl w.heap.size _ _ _ _ k rfl rfl rfl rfl (by omega) (by simp) ?_))
      intro w2 ho2 hg2
      have hR2 : Rin ((w.drewN nq).setCell ⟨g, 2, none⟩ (.bool true)) g zs p' true := hRb.out
      have hG2 : w.grownBy ((w.drewN nq).setCell ⟨g, 2, none⟩ (.bool true)) (some g) := ⟨hGb.out.os, hGb.out.tape, hGb.out.output, hGb.out.size, hGb.out.block⟩
      have hR3 := hR2.grow hg2 (fun k hk => by cases hk)
      have hG3 := grown_step hG2 hg2 (fun k hk => by cases hk)
      clear hRb hGb hR2 hG2
      go_wp2
      go_ret
      exact ⟨_, _, rfl, by simpa [ints] using ho2, hR3, hG3⟩
    | false =>
      have hd : decide ((n : Int) - (p' : Int) < (k : Int)) = true := by simp; rcases hbad with h | h <;> first | cases h | omega
      clear hbad
      go_enter Tryd.func68, Tryd.ntmps68
      go_wp2_with (first | (go_quiet (fail)) | (at_make; refine wpList_make_rd _ rfl _ _ rfl w.heap.size _ _ _ _ k rfl rfl rfl rfl (by omega) (by simp) ?_))
      intro w2 ho2 hg2
      have hR2 : Rin ((w.drewN nq).setCell ⟨g, 2, none⟩ (.bool true)) g zs p' true := hRb.out
      have hG2 : w.grownBy ((w.drewN nq).setCell ⟨g, 2, none⟩ (.bool true)) (some g) := ⟨hGb.out.os, hGb.out.tape, hGb.out.output, hGb.out.size, hGb.out.block⟩
      have hR3 := hR2.grow hg2 (fun k hk => by cases hk)
      have hG3 := grown_step hG2 hg2 (fun k hk => by cases hk)
      clear hRb hGb hR2 hG2
      go_wp2
      go_ret
      exact ⟨_, _, rfl, by simpa [ints] using ho2, hR3, hG3⟩
theorem byte_any (g : Nat) (zs : List Int) (p : Nat) (f : Bool) (w : World) (hr : Rin w g zs p f) (y : Int) (p' : Nat) (f' : Bool) (h : rB zs p f = (y, p', f')) :
    Calls Tryd.prog 66 #[.pointer (some ⟨g, 0, none⟩)] w fun e w' => e = .returned (.int .i64 y) ∧ Rin w' g zs p' f' ∧ w.grownBy w' (some g) := by
  have hT := rB_take h
  replace hT := Lib.hid hT
  clear h
  go_enter Tryd.func66, Tryd.ntmps66
  go_wp2_with fail
  refine (take_any g zs p f 1 w hr (by omega) _ _ _ hT.out).mono ?_
  rintro e w1 ⟨A, c, rfl, ho, hR, hG⟩
  obtain ⟨b, off, rfl, hc⟩ := (Rd.own ho).cells (by omega)
  have hc0 : w1.cell? ⟨b, off, none⟩ = some (.int .i64 y) := hc 0 y rfl
  clear hc ho hr
  go_wp2_with fail
  go_ret
  exact ⟨rfl, hR, hG⟩
theorem expect_any (g : Nat) (zs : List Int) (p : Nat) (f : Bool) (A : Option Addr) (m c : Nat) (bs : List Int) (w : World) (hr : Rin w g zs p f) (hx : Rd w A m (ints bs)) (hne : m = 0 ∨ A.map (·.block) ≠ some g) (hm : m ≤ 1000) (ys : List Int) (p' : Nat) (f' : Bool) (h : rT zs p f m = (ys, p', f')) :
    Calls Tryd.prog 65 #[.pointer (some ⟨g, 0, none⟩), .slice A m c] w fun e w' => e = .returned (.tuple #[]) ∧ Rin w' g zs p' (f' || !decide (ys = bs)) ∧ w.grownBy w' (some g) := by
  replace h := Lib.hid h
  go_enter Tryd.func65, Tryd.ntmps65
  go_wp2_with fail
  refine (take_any g zs p f m w hr hm _ _ _ h.out).mono ?_
  rintro e w1 ⟨A1, c1, rfl, ho, hR, hG⟩
  have hx1 := hx.grown hG hne
  have hr1 := Rd.own ho
  clear ho hr hx
  go_wp2_with fail
  refine (equal_int _ _ _ _ _ _ _ _ _ hr1 hx1).mono ?_
  rintro e w2 ⟨rfl, q, rfl⟩
  have hG2 := grown_drews hG q
  obtain ⟨_, _, _, _, _, hc2, _, hf2, _⟩ := hR.cells
  clear hr1 hx1
  cases hd : decide (ys = bs) with
  | true =>
    go_wp2_with fail
    go_end0
    exact ⟨rfl, by rw [hd, Bool.not_true, Bool.or_false]; exact hR.drewN q, hG2⟩
  | false =>
    obtain ⟨hR3, hG3⟩ := hR.fail
    replace hR3 := Lib.hid hR3
    replace hG3 := Lib.hid hG3
    go_wp2_with fail
    go_end0
    have hG4 := grown_trans hG hG3.out
    exact ⟨rfl, by rw [hd, Bool.not_false, Bool.or_true]; exact hR3.out, ⟨hG4.os, hG4.tape, hG4.output, hG4.size, hG4.block⟩⟩
end Go.Proofs.YtjlgkepbflcefaaDoor
