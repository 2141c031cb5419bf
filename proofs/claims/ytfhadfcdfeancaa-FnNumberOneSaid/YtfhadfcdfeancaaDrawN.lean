/- The functions that draw numbers and rows of numbers. No condition. -/
import Derived.Test.YtfhadfcdfeancaaDraw
namespace Go.Proofs.Ytfhadfcdfeancaa
open Go.RowKit
theorem drawNumberOf_any (A : Option Addr) (n c : Nat) (zs : List Int) (w : World) (hx : Rd w A n (zs.map (Value.int .u8))) (hc : n ≤ c) (hv : ∀ z ∈ zs, 0 ≤ z ∧ z ≤ 255) :
    Calls Try.prog 28 #[.slice A n c] w fun e w' => ∃ A n c zs, e = .returned (.slice A n c) ∧ n ≤ 1000 ∧ w'.ownsRow w.heap.size 3 1 (.slice A n c) n (ints zs) ∧ Below w.heap.size w w' := by
  have hm := hx.max
  go_enter Try.func28, Try.ntmps28
  go_wp2_with fail
  refine (l6Open_any _ _ _ _ _ hx hc hv).mono ?_
  rintro e w1 ⟨g, rfl, hg, hr, hB⟩
  go_wp2_with fail
  refine (l91Bytes_any g 0 5 _ hr (by omega) (by omega)).mono ?_
  rintro e w3 ⟨A, n, c, zs, rfl, hn, ho, _, hg3⟩
  go_wp2_with fail
  go_ret
  exact ⟨A, n, c, zs, rfl, hn, own_base ho hB.size, bgrow hB hg3 fun k hk => by injection hk with hk; omega⟩
theorem drawBytesText_any (A : Option Addr) (n c : Nat) (zs : List Int) (w : World) (hx : Rd w A n (zs.map (Value.int .u8))) (hc : n ≤ c) (hv : ∀ z ∈ zs, 0 ≤ z ∧ z ≤ 255) :
    Calls Try.prog 29 #[.slice A n c] w fun e w' => ∃ A n c zs, e = .returned (.slice A n c) ∧ n ≤ 1000 ∧ w'.ownsRow w.heap.size 3 1 (.slice A n c) n (ints zs) ∧ Below w.heap.size w w' := by
  have hm := hx.max
  go_enter Try.func29, Try.ntmps29
  go_wp2_with fail
  refine (l6Open_any _ _ _ _ _ hx hc hv).mono ?_
  rintro e w1 ⟨g, rfl, hg, hr, hB⟩
  go_wp2_with fail
  refine (l91Bytes_any g 0 12 _ hr (by omega) (by omega)).mono ?_
  rintro e w3 ⟨A, n, c, zs, rfl, hn, ho, _, hg3⟩
  go_wp2_with fail
  go_ret
  exact ⟨A, n, c, zs, rfl, hn, own_base ho hB.size, bgrow hB hg3 fun k hk => by injection hk with hk; omega⟩
set_option maxHeartbeats 1000000 in
theorem drawNumberBytes_any (A : Option Addr) (n c : Nat) (zs : List Int) (w : World) (hx : Rd w A n (zs.map (Value.int .u8))) (hc : n ≤ c) (hv : ∀ z ∈ zs, 0 ≤ z ∧ z ≤ 255) :
    Calls Try.prog 21 #[.slice A n c] w fun e w' => (∃ x width : Int, e = .returned (.tuple #[.int .i64 x, .int .i64 width]) ∧ (-1000000000 ≤ x ∧ x ≤ 1000000000) ∧ (-1000 ≤ width ∧ width ≤ 1000)) ∧ Below w.heap.size w w' := by
  have hm := hx.max
  go_enter Try.func21, Try.ntmps21
  go_wp2_with fail
  refine (l6Open_any _ _ _ _ _ hx hc hv).mono ?_
  rintro e w1 ⟨g, rfl, hg, hr, hB⟩
  clear hx hc hv hm
  go_wp2_with fail
  refine (pick_any g 0 _ _ hr (by omega) (by omega)).mono ?_
  rintro e w2 ⟨x1, rfl, h10, h11, hr2, hg2⟩
  replace h11 := h11 (by omega)
  have hB2 := bgrow hB hg2 fun k hk => by injection hk with hk; omega
  clear hB hr hg2
  go_wp2_with fail
  refine (pick_any g _ _ _ hr2 (by omega) (by omega)).mono ?_
  rintro e w3 ⟨x2, rfl, h20, h21, hr3, hg3⟩
  replace h21 := h21 (by omega)
  have hB3 := bgrow hB2 hg3 fun k hk => by injection hk with hk; omega
  clear hB2 hr2 hg3
  go_wp2_with fail
  refine (pick_any g _ _ _ hr3 (by omega) (by omega)).mono ?_
  rintro e w4 ⟨x3, rfl, h30, h31, hr4, hg4⟩
  replace h31 := h31 (by omega)
  have hB4 := bgrow hB3 hg4 fun k hk => by injection hk with hk; omega
  clear hB3 hr3 hg4
  go_wp2_with fail
  refine (pick_any g _ _ _ hr4 (by omega) (by omega)).mono ?_
  rintro e w5 ⟨x4, rfl, h40, h41, hr5, hg5⟩
  replace h41 := h41 (by omega)
  have hB5 := bgrow hB4 hg5 fun k hk => by injection hk with hk; omega
  clear hB4 hr4 hg5
  go_wp2_with fail
  refine (pick_any g _ _ _ (hr5.alloc _) (by omega) (by omega)).mono ?_
  rintro e w6 ⟨x5, rfl, h50, h51, hr6, hg6⟩
  replace h51 := h51 (by omega)
  obtain ⟨j, rfl⟩ := Int.eq_ofNat_of_zero_le h50
  have hB6 := bgrow (bstep hB5 ((Below.refl _ _).alloc (Nat.le_refl _) (.cells #[.int .i64 x2, .int .i64 x3, .int .i64 65535, .int .i64 65536, .int .i64 16777216, .int .i64 x4] 3))) hg6 fun k hk => by injection hk with hk; omega
  have hrd : Rd w6 (some ⟨w5.heap.size, 0, none⟩) 6 (ints [x2, x3, 65535, 65536, 16777216, x4]) := (rd_lit w5 3 #[.int .i64 x2, .int .i64 x3, .int .i64 65535, .int .i64 65536, .int .i64 16777216, .int .i64 x4] 6 (by omega) rfl).grown hg6 (.inr (new_ne hr5))
  generalize hA2 : (some (⟨w5.heap.size, 0, none⟩ : Addr)) = A2 at hrd ⊢
  obtain ⟨b1, o1, u, rfl, hu, hcu⟩ := hrd.int (k := j) (by omega)
  have hub : 0 ≤ u ∧ u ≤ 16777216 := by
    have hmem := List.mem_of_getElem? hu
    simp at hmem
    omega
  clear hA2 hrd hg6 hr5 hu hB5
  go_wp2_with fail
  refine (pick_any g _ _ _ hr6 (by omega) (by omega)).mono ?_
  rintro e w7 ⟨x6, rfl, h60, h61, hr7, hg7⟩
  replace h61 := h61 (by omega)
  have hB7 := bgrow hB6 hg7 fun k hk => by injection hk with hk; omega
  clear hB6 hr6 hg7
  go_wp2_with fail
  refine (pick_any g _ _ _ hr7 (by omega) (by omega)).mono ?_
  rintro e w8 ⟨x7, rfl, h70, h71, hr8, hg8⟩
  replace h71 := h71 (by omega)
  have hB8 := bgrow hB7 hg8 fun k hk => by injection hk with hk; omega
  clear hB7 hr7 hg8
  go_wp2_with fail
  go_ret2
  exact ⟨⟨_, _, rfl, by omega, by omega⟩, hB8⟩
end Go.Proofs.Ytfhadfcdfeancaa
