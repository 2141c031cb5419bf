/- What the functions that draw inputs do: they return something of their shape, and touch their own reader alone. No condition. -/
import Derived.Test.YthgfldabeaepaaaGreatDoorApp
import Derived.Test.YthgfldabeaepaaaGreatDoorAny
import Derived.Deep.DeepCutAuto
import Derived.Deep.RegionHeld3
namespace Go.Proofs.YthgfldabeaepaaaGreatDoor
open Go.RowKit

/-- Block g is a reader of a code, of which at most m numbers have been taken. -/
def Rdr (w : World) (g : Nat) (m : Nat) : Prop := ∃ (A : Option Addr) (n c : Nat) (zs : List Int) (p : Nat), p ≤ m ∧ w.heap[g]? = some (.cells #[.slice A n c, .int .i64 p] 53 (0, 0)) ∧
  Rd w A n (zs.map (Value.int .u8)) ∧ (∀ z ∈ zs, 0 ≤ z ∧ z ≤ 255) ∧ (n = 0 ∨ ∃ b, A.map (·.block) = some b ∧ b < g)
/-- What a call of 'pick' leaves. -/
def Picked (w : World) (g m : Nat) (k : Int) (e : Ending) (w' : World) : Prop := ∃ x : Int, e = .returned (.int .i64 x) ∧ 0 ≤ x ∧ (1 ≤ k → x < k) ∧ Rdr w' g (m + 1) ∧ w.grownBy w' (some g)

/-- Numbers that are drawn: a row of the call's own, not too long; at most d numbers more have been taken. -/
def DrewInts (w : World) (g m : Nat) (e : Ending) (w' : World) : Prop := ∃ A n c zs, e = .returned (.slice A n c) ∧ n ≤ 1000 ∧ w'.ownsRow w.heap.size 3 1 (.slice A n c) n (ints zs) ∧ Rdr w' g m ∧ w.grownBy w' (some g)

theorem Rdr.lt {w : World} {g m : Nat} (h : Rdr w g m) : g < w.heap.size := by
  obtain ⟨A, n, c, zs, p, _, hg, _⟩ := h
  exact (Array.getElem?_eq_some_iff.1 hg).1
theorem Rdr.mono {w : World} {g m m' : Nat} (h : Rdr w g m) (hm : m ≤ m') : Rdr w g m' := by
  obtain ⟨A, n, c, zs, p, hp, h⟩ := h
  exact ⟨A, n, c, zs, p, by omega, h⟩
theorem Rdr.below {w w' : World} {g m : Nat} (h : Rdr w g m) (hb : Below w.heap.size w w') : Rdr w' g m := by
  have hlt := h.lt
  obtain ⟨A, n, c, zs, p, hp, hg, hr, h⟩ := h
  exact ⟨A, n, c, zs, p, hp, by rw [hb.block g hlt]; exact hg, hr.below hb, h⟩
theorem Rdr.alloc {w : World} {g m : Nat} (h : Rdr w g m) (o : Obj) : Rdr (w.alloc o) g m := h.below ((Below.refl _ _).alloc (Nat.le_refl _) o)
/-- Behind a store into a row that was made later than the reader. -/
theorem Rdr.grow {w w' : World} {g m : Nat} {row : Option Nat} (h : Rdr w g m) (hg : w.grownBy w' row) (hr : ∀ k, row = some k → g < k) : Rdr w' g m := by
  have hlt := h.lt
  obtain ⟨A, n, c, zs, p, hp, hg0, hrd, hv, hne⟩ := h
  refine ⟨A, n, c, zs, p, hp, by rw [hg.block g hlt (fun e => by have := hr g e.symm; omega)]; exact hg0, hrd.grown hg ?_, hv, hne⟩
  rcases hne with h0 | ⟨b, hb, hlt'⟩
  · exact .inl h0
  · exact .inr fun e => by rw [hb] at e; have := hr b e.symm; omega
theorem Rdr.drewN {w : World} {g m : Nat} (h : Rdr w g m) (k : Nat) : Rdr (w.drewN k) g m := h
theorem grown_drewN {w w' : World} {row : Option Nat} (h : w.grownBy w' row) (k : Nat) : w.grownBy (w'.drewN k) row := ⟨h.os, h.tape, h.output, h.size, h.block⟩
theorem xor_nonneg {a b : Int} (ha : 0 ≤ a) (ha' : a < 4611686018427387904) (hb : 0 ≤ b) (hb' : b < 4611686018427387904) : 0 ≤ bits .xor .i64 a b := by
  obtain ⟨x, rfl⟩ := Int.eq_ofNat_of_zero_le ha
  obtain ⟨y, rfl⟩ := Int.eq_ofNat_of_zero_le hb
  have h := Nat.xor_lt_two_pow (x := x) (y := y) (n := 62) (by omega) (by omega)
  show 0 ≤ IntKind.i64.wrap (((BitVec.ofInt 64 (x : Int)) ^^^ (BitVec.ofInt 64 (y : Int))).toNat : Int)
  rw [BitVec.toNat_xor, BitVec.ofInt_natCast, BitVec.ofInt_natCast, BitVec.toNat_ofNat, BitVec.toNat_ofNat, Nat.mod_eq_of_lt (show x < 2 ^ 64 by omega), Nat.mod_eq_of_lt (show y < 2 ^ 64 by omega), IntKind.wrap_i64]
  omega

theorem l6Open_any (A : Option Addr) (n c : Nat) (zs : List Int) (w : World) (hx : Rd w A n (zs.map (Value.int .u8))) (hc : n ≤ c) (hv : ∀ z ∈ zs, 0 ≤ z ∧ z ≤ 255) :
    Calls Tryz.prog 10 #[.slice A n c] w fun e w' => ∃ g, e = .returned (.pointer (some ⟨g, 0, none⟩)) ∧ w.heap.size ≤ g ∧ Rdr w' g 0 ∧ Below w.heap.size w w' := by
  have hm := hx.max
  have hl : zs.length = n := by simpa using hx.len
  by_cases h2 : n ≤ 2000
  · replace hl := Lib.hid hl
    replace hv := Lib.hid hv
    go_enter Tryz.func10, Tryz.ntmps10
    go_wp2
    go_ret
    exact ⟨_, rfl, Nat.le_refl _, ⟨A, n, c, zs, 0, Nat.le_refl _, heap_alloc_new w _, hx.alloc _, hv.out, hx.under⟩, by go_grown⟩
  · have hx2 := hx.take (k := 2000) (by omega)
    rw [← List.map_take] at hx2
    have hv2 : ∀ z ∈ zs.take 2000, 0 ≤ z ∧ z ≤ 255 := fun z hz => hv z (List.mem_of_mem_take hz)
    replace hl := Lib.hid hl
    replace hv2 := Lib.hid hv2
    clear hv
    go_enter Tryz.func10, Tryz.ntmps10
    go_wp2
    go_ret
    exact ⟨_, rfl, Nat.le_refl _, ⟨A, 2000, c, zs.take 2000, 0, Nat.le_refl _, heap_alloc_new w _, hx2.alloc _, hv2.out, hx2.under⟩, by go_grown⟩
set_option maxRecDepth 20000 in
set_option maxHeartbeats 1000000 in
theorem pick_any (g m : Nat) (k : Int) (w : World) (hr : Rdr w g m) (hm : m ≤ 100000) (hk : k ≤ 1000000000) :
    Calls Tryz.prog 13 #[.pointer (some ⟨g, 0, none⟩), .int .i64 k] w (Picked w g m k) := by
  obtain ⟨A, n, c, zs, p, hp, hg, hx, hv, hne⟩ := hr
  have hn := hx.max
  have hp' : p ≤ 100000 := by omega
  have hc0 : w.cell? ⟨g, 0, none⟩ = some (.slice A n c) := by rw [cell_of_row w g 0 _ _ _ hg]; rfl
  have hc1 : w.cell? ⟨g, 1, none⟩ = some (.int .i64 p) := by rw [cell_of_row w g 1 _ _ _ hg]; rfl
  have hf1 : w.frozen? ⟨g, 1, none⟩ = false := frozen_of_row w g 1 _ _ hg
  have hl : zs.length = n := by simpa using hx.len
  have hne' : n = 0 ∨ A.map (·.block) ≠ some g := by
    rcases hne with h0 | ⟨b, hb, hlt⟩
    · exact .inl h0
    · exact .inr (by rw [hb]; simp; omega)
  have hR : Rdr (w.setCell ⟨g, 1, none⟩ (.int .i64 ((p : Int) + 1))) g (m + 1) :=
    ⟨A, n, c, zs, p + 1, by omega, by rw [heap_setCell_same w g 1 _ _ _ hg]; rfl, hx.grown (grown_set w g 1 _) hne', hv, hne⟩
  have hG := grown_set w g 1 (.int .i64 ((p : Int) + 1))
  replace hR := Lib.hid hR
  replace hG := Lib.hid hG
  by_cases hk1 : k < 1
  · clear hg hx hv hne hne' hl
    go_enter Tryz.func13, Tryz.ntmps13
    go_wp2
    go_ret
    exact ⟨0, rfl, Int.le_refl _, fun h => absurd h (by omega), hR.out, hG.out⟩
  · by_cases hn0 : n = 0
    · subst hn0
      clear hg hx hv hne hne' hl
      have hk2 : ¬ k < 1 := hk1
      go_enter Tryz.func13, Tryz.ntmps13
      go_wp2
      go_ret
      exact ⟨0, rfl, Int.le_refl _, fun h => by omega, hR.out, hG.out⟩
    · have hnz : ((n : Int) == 0) = false := by simpa using hn0
      by_cases hpn : p < n
      · obtain ⟨b, off, x, rfl, hxk, hcx⟩ := hx.kind hpn
        have hgb : ¬ b = g := by simpa [hn0] using hne'
        obtain ⟨hx0, hx1⟩ := hv x (List.mem_of_getElem? hxk)
        have hm0 := Int.emod_nonneg x (show k ≠ 0 by omega)
        have hm1 := Int.emod_lt_of_pos x (show 0 < k by omega)
        have hcx' : (w.setCell ⟨g, 1, none⟩ (.int .i64 ((p : Int) + 1))).cell? ⟨b, off + p, none⟩ = some (.int .u8 x) := by
          rw [World.cell?_setCell_other w _ _ _ (by simp)]
          exact hcx
        clear hg hx hv hne hne' hl hxk
        go_enter Tryz.func13, Tryz.ntmps13
        go_wp2
        go_ret
        exact ⟨x % k, rfl, hm0, fun _ => hm1, hR.out, hG.out⟩
      · have hnp : n ≤ p := by omega
        have hn1 : 1 ≤ n := by omega
        have i1 : (p : Int) % (n : Int) = ((p % n : Nat) : Int) := by simp
        have i2 : ((p : Int) * 7 + 3) % (n : Int) = (((p * 7 + 3) % n : Nat) : Int) := by simp
        have q1 : (p : Int) / (n : Int) = ((p / n : Nat) : Int) := by simp
        have hi1 : p % n < n := Nat.mod_lt _ (by omega)
        have hi2 : (p * 7 + 3) % n < n := Nat.mod_lt _ (by omega)
        have hq : p / n ≤ p := Nat.div_le_self _ _
        generalize p % n = j1 at i1 hi1
        generalize (p * 7 + 3) % n = j2 at i2 hi2
        generalize p / n = q at q1 hq
        obtain ⟨b, off, x, rfl, hxk, hcx⟩ := hx.kind hi1
        obtain ⟨b', off', y, hA, hyk, hcy⟩ := hx.kind hi2
        injection hA with hA
        injection hA with hA1 hA2 _
        subst hA1 hA2
        have hgb : ¬ b = g := by simpa [hn0] using hne'
        obtain ⟨hx0, hx1⟩ := hv x (List.mem_of_getElem? hxk)
        obtain ⟨hy0, hy1⟩ := hv y (List.mem_of_getElem? hyk)
        have hcx' : (w.setCell ⟨g, 1, none⟩ (.int .i64 ((p : Int) + 1))).cell? ⟨b, off + j1, none⟩ = some (.int .u8 x) := by
          rw [World.cell?_setCell_other w _ _ _ (by simp)]
          exact hcx
        have hcy' : (w.setCell ⟨g, 1, none⟩ (.int .i64 ((p : Int) + 1))).cell? ⟨b, off + j2, none⟩ = some (.int .u8 y) := by
          rw [World.cell?_setCell_other w _ _ _ (by simp)]
          exact hcy
        clear hg hx hv hne hne' hl hxk hyk
        go_enter Tryz.func13, Tryz.ntmps13
        go_wp2_with (go_quiet (fail))
        go_ret
        have hX := xor_nonneg (a := x * 131 + y * 1117 + ↑p * 29 + ↑q * 53) (b := (x * 131 + y * 1117 + ↑p * 29 + ↑q * 53) / 64) (by omega) (by omega) (by omega) (by omega)
        exact ⟨_, rfl, Int.tmod_nonneg _ hX, fun _ => Int.tmod_lt_of_pos _ (by omega), hR.out.drewN _, grown_drewN hG.out _⟩
/-- A short text. -/
def shortV : Value → Bool
  | .string s => decide (s.size ≤ 1000)
  | _ => false
/-- What a call that draws a text leaves: a short text, of whatever letters; at most d numbers more have been taken. -/
def DrewText (w : World) (g m : Nat) (e : Ending) (w' : World) : Prop := ∃ s : ByteArray, e = .returned (.string s) ∧ s.size ≤ 1000 ∧ Rdr w' g m ∧ w.grownBy w' (some g)
theorem new_ne {w : World} {g m : Nat} (h : Rdr w g m) : Option.map (fun x : Addr => x.block) (some ⟨w.heap.size, 0, none⟩) ≠ some g := by
  have := h.lt
  simp only [Option.map_some, ne_eq, Option.some.injEq]
  omega
set_option maxRecDepth 20000 in
set_option maxHeartbeats 400000 in
theorem of_any (g m : Nat) (A : Option Addr) (n c : Nat) (vs : List Value) (w : World) (hr : Rdr w g m) (hm : m ≤ 100000) (hn : 1 ≤ n ∧ n ≤ 1000) (hx : Rd w A n vs) (hne : A.map (·.block) ≠ some g) (hs : vs.all shortV = true) :
    Calls Tryz.prog 14 #[.pointer (some ⟨g, 0, none⟩), .slice A n c] w (DrewText w g (m + 1)) := by
  obtain ⟨hn1, hn2⟩ := hn
  replace hs := Lib.hid hs
  go_enter Tryz.func14, Tryz.ntmps14
  go_wp2_with fail
  refine (pick_any g m _ _ hr hm (by omega)).mono ?_
  rintro e w1 ⟨x, rfl, h0, h1, hr1, hg1⟩
  replace h1 := h1 (by omega)
  obtain ⟨k, rfl⟩ := Int.eq_ofNat_of_zero_le h0
  have hk : k < n := by omega
  obtain ⟨b, off, v, rfl, hv, hc⟩ := (hx.grown hg1 (.inr hne)).at_ hk
  have hv' := List.all_eq_true.1 hs.out v (List.mem_of_getElem? hv)
  obtain ⟨s, rfl, hsz⟩ : ∃ s, v = .string s ∧ s.size ≤ 1000 := by
    cases v <;> simp only [shortV, Bool.false_eq_true] at hv'
    exact ⟨_, rfl, of_decide_eq_true hv'⟩
  clear hv hv' hs hx hne hr
  go_wp2_with fail
  go_ret
  exact ⟨s, rfl, hsz, hr1, hg1⟩
/-- 'of' at a list that was just made. -/
theorem of_new (g m : Nat) (cs : Array Value) (e : TypeId) (n : Nat) (w : World) (hr : Rdr w g m) (hm : m ≤ 100000) (hn : 1 ≤ n ∧ n ≤ 1000) (hs : cs.size = n) (hv : cs.toList.all shortV = true) :
    Calls Tryz.prog 14 #[.pointer (some ⟨g, 0, none⟩), .slice (some ⟨w.heap.size, 0, none⟩) n n] (w.alloc (.cells cs e)) (DrewText w g (m + 1)) :=
  (of_any g m _ n n cs.toList _ (hr.alloc _) hm hn (rd_lit w e cs n (by omega) hs) (new_ne hr) hv).mono fun _ _ ⟨s, he, h1, h2, h3⟩ => ⟨s, he, h1, h2, grown_trans (World.grownBy_alloc _ _ _) h3⟩
end Go.Proofs.YthgfldabeaepaaaGreatDoor
