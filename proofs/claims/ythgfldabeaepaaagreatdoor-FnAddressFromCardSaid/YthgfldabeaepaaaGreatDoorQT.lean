/- The text of four bytes, in the reference. No condition. -/
import Derived.Test.YthgfldabeaepaaaGreatDoorDec
namespace Go.Proofs.YthgfldabeaepaaaGreatDoor
open Go.RowKit Go.Sort
theorem quadT_four (a b g d : Nat) : txt (quadT [(a : Int), b, g, d]) = txt (Lib.decDigits a) ++ txt [46] ++ txt (Lib.decDigits b) ++ txt [46] ++ txt (Lib.decDigits g) ++ txt [46] ++ txt (Lib.decDigits d) := by
  unfold quadT
  simp only [List.map_cons, List.map_nil, itoa_nat, join_cons2, Lib.join_one]
  simp only [txt_append]
  congr 1
  simp
theorem dec_short {n : Nat} (h : n ≤ 1000000) : (txt (Lib.decDigits n)).size ≤ 21 := by
  rw [txt_size, Lib.decDigits_length]
  have := Lib.nDigits_le20 n (by omega)
  omega
set_option maxRecDepth 20000 in
set_option maxHeartbeats 2000000 in
theorem l2Quad_any (A : Option Addr) (n c : Nat) (q : List Int) (w : World) (hx : Rd w A n (ints q)) (hq : qv q = true) :
    Calls Tryz.prog 45 #[.slice A n c] w fun e w' => e = .returned (.string (txt (quadT q))) ∧ Below w.heap.size w w' := by
  obtain ⟨a, b, g, d, rfl, ha, hb, hg, hd⟩ := qv_four hq
  obtain ⟨a, rfl⟩ := Int.eq_ofNat_of_zero_le ha.1
  obtain ⟨b, rfl⟩ := Int.eq_ofNat_of_zero_le hb.1
  obtain ⟨g, rfl⟩ := Int.eq_ofNat_of_zero_le hg.1
  obtain ⟨d, rfl⟩ := Int.eq_ofNat_of_zero_le hd.1
  obtain rfl : n = 4 := by have := hx.ilen; simpa using this.symm
  obtain ⟨bb, off, rfl, hcl⟩ := hx.cells (by omega)
  have c0 : w.cell? ⟨bb, off, none⟩ = some (.int .i64 a) := hcl 0 a rfl
  have k0 := cell_regrown c0
  have k1 := cell_regrown (hcl 1 b rfl)
  have k2 := cell_regrown (hcl 2 g rfl)
  have k3 := cell_regrown (hcl 3 d rfl)
  have hfin := quadT_four a b g d
  have l0 := dec_short (n := a) (by omega)
  have l1 := dec_short (n := b) (by omega)
  have l2 := dec_short (n := g) (by omega)
  have l3 := dec_short (n := d) (by omega)
  have q0 : ∀ wz : World, Calls Tryz.prog 28 #[.int .i64 (a : Int)] wz fun e w' => e = .returned (.string (txt (Lib.decDigits a))) ∧ Below wz.heap.size wz w' := fun wz => l6Dec_any a (by omega) wz
  have q1 : ∀ wz : World, Calls Tryz.prog 28 #[.int .i64 (b : Int)] wz fun e w' => e = .returned (.string (txt (Lib.decDigits b))) ∧ Below wz.heap.size wz w' := fun wz => l6Dec_any b (by omega) wz
  have q2 : ∀ wz : World, Calls Tryz.prog 28 #[.int .i64 (g : Int)] wz fun e w' => e = .returned (.string (txt (Lib.decDigits g))) ∧ Below wz.heap.size wz w' := fun wz => l6Dec_any g (by omega) wz
  have q3 : ∀ wz : World, Calls Tryz.prog 28 #[.int .i64 (d : Int)] wz fun e w' => e = .returned (.string (txt (Lib.decDigits d))) ∧ Below wz.heap.size wz w' := fun wz => l6Dec_any d (by omega) wz
  generalize txt (Lib.decDigits a) = T0 at hfin l0 q0
  generalize txt (Lib.decDigits b) = T1 at hfin l1 q1
  generalize txt (Lib.decDigits g) = T2 at hfin l2 q2
  generalize txt (Lib.decDigits d) = T3 at hfin l3 q3
  have z0 : ∀ (dd : Nat) (os : Array Obj), Calls Tryz.prog 28 #[.int .i64 (a : Int)] (grow (redrawn w dd) os) fun e w'' => e = .returned (.string T0) ∧ ∃ p : Regrown, w'' = grow (redrawn w p.d) p.os := fun dd os => Calls.regrown_of (q0 _)
  have z1 : ∀ (dd : Nat) (os : Array Obj), Calls Tryz.prog 28 #[.int .i64 (b : Int)] (grow (redrawn w dd) os) fun e w'' => e = .returned (.string T1) ∧ ∃ p : Regrown, w'' = grow (redrawn w p.d) p.os := fun dd os => Calls.regrown_of (q1 _)
  have z2 : ∀ (dd : Nat) (os : Array Obj), Calls Tryz.prog 28 #[.int .i64 (g : Int)] (grow (redrawn w dd) os) fun e w'' => e = .returned (.string T2) ∧ ∃ p : Regrown, w'' = grow (redrawn w p.d) p.os := fun dd os => Calls.regrown_of (q2 _)
  have z3 : ∀ (dd : Nat) (os : Array Obj), Calls Tryz.prog 28 #[.int .i64 (d : Int)] (grow (redrawn w dd) os) fun e w'' => e = .returned (.string T3) ∧ ∃ p : Regrown, w'' = grow (redrawn w p.d) p.os := fun dd os => Calls.regrown_of (q3 _)
  replace hfin := Lib.hid hfin
  replace z0 := Lib.hid z0
  replace z1 := Lib.hid z1
  replace z2 := Lib.hid z2
  replace z3 := Lib.hid z3
  clear q0 q1 q2 q3 hcl hx hq
  have n1 : ¬ 9223372036854775807 < T0.size + 1 := by omega
  have n2 : ¬ 9223372036854775807 < T0.size + 1 + T1.size := by omega
  have n3 : ¬ 9223372036854775807 < T0.size + 1 + T1.size + 1 := by omega
  have n4 : ¬ 9223372036854775807 < T0.size + 1 + T1.size + 1 + T2.size := by omega
  have n5 : ¬ 9223372036854775807 < T0.size + 1 + T1.size + 1 + T2.size + 1 := by omega
  have n6 : ¬ 9223372036854775807 < T0.size + 1 + T1.size + 1 + T2.size + 1 + T3.size := by omega
  have i0 : (0 : Int) < 4 := by omega
  have i1 : (1 : Int) < 4 := by omega
  have i2 : (2 : Int) < 4 := by omega
  have i3 : (3 : Int) < 4 := by omega
  clear l0 l1 l2 l3
  go_enter Tryz.func45, Tryz.ntmps45
  go_wp2_with fail
  refine wp_region_quiet_below (by kernel_rfl) (by kernel_rfl) ?_
  repeat (quiet_step (first | (with_reducible exact z0.out _ _) | (with_reducible exact z1.out _ _) | (with_reducible exact z2.out _ _) | (with_reducible exact z3.out _ _)))
  refine wpQuiet_nil ?_
  intro _ hw'
  obtain ⟨⟨dq, osq⟩, hw''⟩ := hw'
  subst hw''
  go_wp2_with fail
  go_ret
  exact ⟨by rw [hfin.out]; rfl, below_regrown w dq osq⟩
end Go.Proofs.YthgfldabeaepaaaGreatDoor
