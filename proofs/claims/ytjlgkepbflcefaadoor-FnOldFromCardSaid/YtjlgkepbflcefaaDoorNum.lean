/- What NumberBytes returns, in the program and in the reference. No condition. -/
import Derived.Test.YtjlgkepbflcefaaDoorHelp
namespace Go.Proofs.YtjlgkepbflcefaaDoor
open Go.RowKit

set_option maxRecDepth 20000 in
set_option maxHeartbeats 1000000 in
theorem l1Number_any (n : Int) (hn : 0 ≤ n ∧ n ≤ 9223372036854775807) (width : Nat) (hw : 1 ≤ width ∧ width ≤ 4) (w : World) :
    Calls Tryd.prog 88 #[.int .i64 n, .int .i64 width] w (RetI w (nb n width)) := by
  obtain ⟨hn0, hn1⟩ := hn
  obtain rfl | rfl | rfl | rfl : width = 1 ∨ width = 2 ∨ width = 3 ∨ width = 4 := by omega
  · have hmk : ∀ w, (Instr.makeSlice 22 (.int .i64 1) (.int .i64 1)).run Tryd.prog w = .ok (.slice (some ⟨w.heap.size, 0, none⟩) 1 1) (w.alloc (.cells #[.int .i64 0] 3)) := fun _ => by kernel_rfl
    go_enter Tryd.func88, Tryd.ntmps88
    go_wp2
    go_rounds 2
    go_ret
    exact ⟨_, 1, _, rfl, World.ownsRow_lit _ _ 1 (Nat.le_refl _) (by decide) rfl, by go_grown⟩
  · have hmk : ∀ w, (Instr.makeSlice 22 (.int .i64 2) (.int .i64 2)).run Tryd.prog w = .ok (.slice (some ⟨w.heap.size, 0, none⟩) 2 2) (w.alloc (.cells #[.int .i64 0, .int .i64 0] 3)) := fun _ => by kernel_rfl
    go_enter Tryd.func88, Tryd.ntmps88
    go_wp2
    go_rounds 3
    go_ret
    exact ⟨_, 2, _, rfl, World.ownsRow_lit _ _ 2 (Nat.le_refl _) (by decide) rfl, by go_grown⟩
  · have hmk : ∀ w, (Instr.makeSlice 22 (.int .i64 3) (.int .i64 3)).run Tryd.prog w = .ok (.slice (some ⟨w.heap.size, 0, none⟩) 3 3) (w.alloc (.cells #[.int .i64 0, .int .i64 0, .int .i64 0] 3)) := fun _ => by kernel_rfl
    go_enter Tryd.func88, Tryd.ntmps88
    go_wp2
    go_rounds 4
    go_ret
    exact ⟨_, 3, _, rfl, World.ownsRow_lit _ _ 3 (Nat.le_refl _) (by decide) rfl, by go_grown⟩
  · have hmk : ∀ w, (Instr.makeSlice 22 (.int .i64 4) (.int .i64 4)).run Tryd.prog w = .ok (.slice (some ⟨w.heap.size, 0, none⟩) 4 4) (w.alloc (.cells #[.int .i64 0, .int .i64 0, .int .i64 0, .int .i64 0] 3)) := fun _ => by kernel_rfl
    go_enter Tryd.func88, Tryd.ntmps88
    go_wp2
    go_rounds 5
    go_ret
    exact ⟨_, 4, _, rfl, World.ownsRow_lit _ _ 4 (Nat.le_refl _) (by decide) rfl, by go_grown⟩
theorem wraps_i64 (n : Int) (h₀ : 0 ≤ n) (h₁ : n < 2 ^ 63) : IntKind.i64.wrap n = n := by rw [IntKind.wrap_i64]; omega
theorem and255 {n : Int} (h0 : 0 ≤ n) (h1 : n ≤ 9223372036854775807) : bits .and .i64 n 255 = n % 256 :=
  bits_mask .i64 63 (by decide) wraps_i64 8 (by decide) n h0 (by omega)
theorem nb_two (n : Int) : nb n 2 = [n / 256 % 256, n % 256] := rfl
theorem nb_three (n : Int) : nb n 3 = [n / 65536 % 256, n / 256 % 256, n % 256] := by
  have e : n / 256 / 256 = n / 65536 := by omega
  show [n / 256 / 256 % 256, n / 256 % 256, n % 256] = _
  rw [e]
theorem nb_four (n : Int) : nb n 4 = [n / 16777216 % 256, n / 65536 % 256, n / 256 % 256, n % 256] := by
  have e : n / 256 / 256 = n / 65536 := by omega
  have e' : n / 256 / 256 / 256 = n / 16777216 := by omega
  show [n / 256 / 256 / 256 % 256, n / 256 / 256 % 256, n / 256 % 256, n % 256] = _
  rw [e', e]
set_option maxRecDepth 20000 in
set_option maxHeartbeats 1000000 in
theorem numberBytes_any (n : Int) (hn : 0 ≤ n ∧ n ≤ 9223372036854775807) (width : Nat) (hw : 1 ≤ width ∧ width ≤ 4) (w : World) :
    Calls Tryd.prog 57 #[.int .i64 n, .int .i64 width] w (RetI w (nb n width)) := by
  obtain ⟨hn0, hn1⟩ := hn
  have a0 := and255 hn0 hn1
  have a1 := and255 (n := n / 256) (by omega) (by omega)
  have a2 := and255 (n := n / 65536) (by omega) (by omega)
  have a3 := and255 (n := n / 16777216) (by omega) (by omega)
  obtain rfl | rfl | rfl | rfl : width = 1 ∨ width = 2 ∨ width = 3 ∨ width = 4 := by omega
  · have hmk : ∀ w, (Instr.makeSlice 22 (.int .i64 1) (.int .i64 1)).run Tryd.prog w = .ok (.slice (some ⟨w.heap.size, 0, none⟩) 1 1) (w.alloc (.cells #[.int .i64 0] 3)) := fun _ => by kernel_rfl
    clear a1 a2 a3
    go_enter Tryd.func57, Tryd.ntmps57
    go_wp2
    go_rounds 2
    go_ret
    exact ⟨_, 1, _, rfl, World.ownsRow_lit _ _ 1 (Nat.le_refl _) (by decide) rfl, by go_grown⟩
  · have hmk : ∀ w, (Instr.makeSlice 22 (.int .i64 2) (.int .i64 2)).run Tryd.prog w = .ok (.slice (some ⟨w.heap.size, 0, none⟩) 2 2) (w.alloc (.cells #[.int .i64 0, .int .i64 0] 3)) := fun _ => by kernel_rfl
    clear a2 a3
    rw [nb_two]
    go_enter Tryd.func57, Tryd.ntmps57
    go_wp2
    go_rounds 3
    go_ret
    exact ⟨_, 2, _, rfl, World.ownsRow_lit _ _ 2 (Nat.le_refl _) (by decide) rfl, by go_grown⟩
  · have hmk : ∀ w, (Instr.makeSlice 22 (.int .i64 3) (.int .i64 3)).run Tryd.prog w = .ok (.slice (some ⟨w.heap.size, 0, none⟩) 3 3) (w.alloc (.cells #[.int .i64 0, .int .i64 0, .int .i64 0] 3)) := fun _ => by kernel_rfl
    clear a3
    rw [nb_three]
    go_enter Tryd.func57, Tryd.ntmps57
    go_wp2
    go_rounds 4
    go_ret
    exact ⟨_, 3, _, rfl, World.ownsRow_lit _ _ 3 (Nat.le_refl _) (by decide) rfl, by go_grown⟩
  · have hmk : ∀ w, (Instr.makeSlice 22 (.int .i64 4) (.int .i64 4)).run Tryd.prog w = .ok (.slice (some ⟨w.heap.size, 0, none⟩) 4 4) (w.alloc (.cells #[.int .i64 0, .int .i64 0, .int .i64 0, .int .i64 0] 3)) := fun _ => by kernel_rfl
    rw [nb_four]
    go_enter Tryd.func57, Tryd.ntmps57
    go_wp2
    go_rounds 5
    go_ret
    exact ⟨_, 4, _, rfl, World.ownsRow_lit _ _ 4 (Nat.le_refl _) (by decide) rfl, by go_grown⟩
set_option maxRecDepth 20000 in
set_option maxHeartbeats 1000000 in
theorem numberBytes_impl (n width : Int) (hn : -9223372036854775808 ≤ n ∧ n ≤ 9223372036854775807) (w : World) (zs : List Int) (b : Bool) (h : numB n width = (zs, b)) :
    Calls Tryd.prog 31 #[.int .i64 n, .int .i64 width] w (RetIB w zs b) := by
  have hc := numB_cases h
  obtain ⟨hn', hn⟩ := hn
  clear h
  cases hw : inR width 1 4 with
  | false =>
    rcases hc with ⟨_, _, hf⟩ | ⟨rfl, rfl, _⟩
    · have := (fits_true.1 hf).1
      have := inR_false.1 hw
      omega
    · replace hw := Lib.hid hw
      go_enter Tryd.func31, Tryd.ntmps31
      go_wp2_with (go_at_call 61; refine (within_any _ _ _ _ _ hw.out).mono ?_; rintro e w' ⟨rfl, rfl⟩)
      go_ret2
      exact ⟨_, 0, _, rfl, own_nil2 _, by go_grown⟩
  | true =>
    obtain ⟨hw1, hw4⟩ := inR_true.1 hw
    by_cases h0 : n < 0
    · rcases hc with ⟨_, _, hf⟩ | ⟨rfl, rfl, _⟩
      · have := (fits_true.1 hf).2.1
        omega
      · replace hw := Lib.hid hw
        go_enter Tryd.func31, Tryd.ntmps31
        go_wp2_with (go_at_call 61; refine (within_any _ _ _ _ _ hw.out).mono ?_; rintro e w' ⟨rfl, rfl⟩)
        go_ret2
        exact ⟨_, 0, _, rfl, own_nil2 _, by go_grown⟩
    · obtain ⟨k, rfl⟩ := Int.eq_ofNat_of_zero_le (show 0 ≤ width by omega)
      have hk : 1 ≤ k ∧ k ≤ 4 := by omega
      have h00 : 0 ≤ n := by omega
      rcases hc with ⟨rfl, rfl, hf⟩ | ⟨rfl, rfl, hf⟩
      · have hp := (fits_true.1 hf).2.2
        rw [Int.toNat_natCast]
        clear hf h0 hw1 hw4
        replace hw := Lib.hid hw
        obtain rfl | rfl | rfl | rfl : k = 1 ∨ k = 2 ∨ k = 3 ∨ k = 4 := by omega
        · have hz : ¬ 0 < n / 256 := by have : n < 256 := hp
                                        omega
          clear hp
          go_enter Tryd.func31, Tryd.ntmps31
          go_wp2_with (first | (go_at_call 61; refine (within_any _ _ _ _ _ hw.out).mono ?_; rintro e w' ⟨rfl, rfl⟩) | (go_at_call 57; refine (numberBytes_any n ⟨h00, hn⟩ _ hk _).mono ?_; rintro e w' ⟨A, m, c, rfl, ho, hb⟩))
          go_ret2
          exact ⟨_, _, _, rfl, ho, hb⟩
        · have hz : ¬ 0 < n / 65536 := by have : n < 65536 := hp
                                          omega
          clear hp
          go_enter Tryd.func31, Tryd.ntmps31
          go_wp2_with (first | (go_at_call 61; refine (within_any _ _ _ _ _ hw.out).mono ?_; rintro e w' ⟨rfl, rfl⟩) | (go_at_call 57; refine (numberBytes_any n ⟨h00, hn⟩ _ hk _).mono ?_; rintro e w' ⟨A, m, c, rfl, ho, hb⟩))
          go_ret2
          exact ⟨_, _, _, rfl, ho, hb⟩
        · have hz : ¬ 0 < n / 16777216 := by have : n < 16777216 := hp
                                             omega
          clear hp
          go_enter Tryd.func31, Tryd.ntmps31
          go_wp2_with (first | (go_at_call 61; refine (within_any _ _ _ _ _ hw.out).mono ?_; rintro e w' ⟨rfl, rfl⟩) | (go_at_call 57; refine (numberBytes_any n ⟨h00, hn⟩ _ hk _).mono ?_; rintro e w' ⟨A, m, c, rfl, ho, hb⟩))
          go_ret2
          exact ⟨_, _, _, rfl, ho, hb⟩
        · have hz : ¬ 0 < n / 4294967296 := by have : n < 4294967296 := hp
                                               omega
          clear hp
          go_enter Tryd.func31, Tryd.ntmps31
          go_wp2_with (first | (go_at_call 61; refine (within_any _ _ _ _ _ hw.out).mono ?_; rintro e w' ⟨rfl, rfl⟩) | (go_at_call 57; refine (numberBytes_any n ⟨h00, hn⟩ _ hk _).mono ?_; rintro e w' ⟨A, m, c, rfl, ho, hb⟩))
          go_ret2
          exact ⟨_, _, _, rfl, ho, hb⟩
      · have hp : pow256 (k : Int) ≤ n := by have := fits_false.1 hf
                                             omega
        clear hf h0 hw1 hw4
        replace hw := Lib.hid hw
        obtain rfl | rfl | rfl | rfl : k = 1 ∨ k = 2 ∨ k = 3 ∨ k = 4 := by omega
        · have hz : 0 < n / 256 := by have : 256 ≤ n := hp
                                      omega
          clear hp
          go_enter Tryd.func31, Tryd.ntmps31
          go_wp2_with (go_at_call 61; refine (within_any _ _ _ _ _ hw.out).mono ?_; rintro e w' ⟨rfl, rfl⟩)
          go_ret2
          exact ⟨_, 0, _, rfl, own_nil2 _, by go_grown⟩
        · have hz : 0 < n / 65536 := by have : 65536 ≤ n := hp
                                        omega
          clear hp
          go_enter Tryd.func31, Tryd.ntmps31
          go_wp2_with (go_at_call 61; refine (within_any _ _ _ _ _ hw.out).mono ?_; rintro e w' ⟨rfl, rfl⟩)
          go_ret2
          exact ⟨_, 0, _, rfl, own_nil2 _, by go_grown⟩
        · have hz : 0 < n / 16777216 := by have : 16777216 ≤ n := hp
                                           omega
          clear hp
          go_enter Tryd.func31, Tryd.ntmps31
          go_wp2_with (go_at_call 61; refine (within_any _ _ _ _ _ hw.out).mono ?_; rintro e w' ⟨rfl, rfl⟩)
          go_ret2
          exact ⟨_, 0, _, rfl, own_nil2 _, by go_grown⟩
        · have hz : 0 < n / 4294967296 := by have : 4294967296 ≤ n := hp
                                             omega
          clear hp
          go_enter Tryd.func31, Tryd.ntmps31
          go_wp2_with (go_at_call 61; refine (within_any _ _ _ _ _ hw.out).mono ?_; rintro e w' ⟨rfl, rfl⟩)
          go_ret2
          exact ⟨_, 0, _, rfl, own_nil2 _, by go_grown⟩
end Go.Proofs.YtjlgkepbflcefaaDoor
