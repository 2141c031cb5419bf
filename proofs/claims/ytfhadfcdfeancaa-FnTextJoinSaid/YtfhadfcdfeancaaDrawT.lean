/- The functions that draw texts. No condition. -/
import Derived.Test.YtfhadfcdfeancaaDraw
namespace Go.Proofs.Ytfhadfcdfeancaa
open Go.RowKit
set_option maxHeartbeats 1000000 in
theorem l91Letters_any (g m : Nat) (most : Nat) (w : World) (hr : Rdr w g m) (hm : m ≤ 90000) (hmost : most ≤ 100) :
    Calls Try.prog 50 #[.pointer (some ⟨g, 0, none⟩), .int .i64 most] w fun e w' => ∃ s : ByteArray, e = .returned (.string s) ∧ s.size ≤ 1000000 ∧ Rdr w' g (m + 400) ∧ w.grownBy w' (some g) := by
  go_enter Try.func50, Try.ntmps50
  go_wp2_with fail
  refine (pick_any g m _ _ hr (by omega) (by omega)).mono ?_
  rintro e w1 ⟨N', rfl, hN0, hN1, hr1, hg1⟩
  replace hN1 := hN1 (by omega)
  obtain ⟨N, rfl⟩ := Int.eq_ofNat_of_zero_le hN0
  go_wp2_with fail
  go_loopw [5, 7] (fun v i wr => ∃ (k : Nat) (s : ByteArray), k ≤ N ∧ i = .int .i64 k ∧ v = .string s ∧ s.size ≤ 1000 * k ∧ Rdr wr g (m + 1 + k) ∧ w.grownBy wr (some g)) (fun _ i _ => N - (intOf i).toNat)
  case atStart => exact ⟨0, _, Nat.zero_le _, rfl, rfl, Nat.le_refl _, hr1, hg1⟩
  case round =>
    clear hr1 hg1
    obtain ⟨k, s, hk, rfl, rfl, hs, hrr, hG⟩ := hrel
    by_cases hlt' : k < N
    · go_wp2_with fail
      refine (of_new g (m + 1 + k) _ _ _ _ (by exact hrr) (by omega) (by omega) (by rfl) (by decide)).mono ?_
      rintro e w2 ⟨t, rfl, ht, hr2, hg2⟩
      have hst : (s ++ t).size ≤ 1000 * (k + 1) := by rw [ByteArray.size_append]; omega
      replace hst := Lib.hid hst
      go_wp2_with fail
      go_roundw
      case rel => exact ⟨k + 1, _, by omega, by go_num, rfl, hst.out, hr2.mono (by omega), grown_trans hG hg2⟩
      case measure => simp [intOf]; omega
    · have hk' : k = N := by omega
      subst hk'
      go_wp2_with fail
      go_ret
      exact ⟨s, rfl, by omega, hrr.mono (by omega), hG⟩
set_option maxHeartbeats 1000000 in
theorem l6Many_any (x : Int) (hx : x = 0 ∨ x = 1) (w : World) :
    Calls Try.prog 49 #[.string ⟨#[97]⟩, .int .i64 (120 + x)] w fun e w' => (∃ s : ByteArray, e = .returned (.string s) ∧ s.size ≤ 1000) ∧ w = w' := by
  rcases hx with rfl | rfl
  · go_enter Try.func49, Try.ntmps49
    go_wp2
    go_rounds 8
    go_ret
    exact ⟨⟨_, rfl, by decide +kernel⟩, rfl⟩
  · go_enter Try.func49, Try.ntmps49
    go_wp2
    go_rounds 8
    go_ret
    exact ⟨⟨_, rfl, by decide +kernel⟩, rfl⟩
set_option maxHeartbeats 1000000 in
theorem drawTextBytes_any (A : Option Addr) (n c : Nat) (zs : List Int) (w : World) (hx : Rd w A n (zs.map (Value.int .u8))) (hc : n ≤ c) (hv : ∀ z ∈ zs, 0 ≤ z ∧ z ≤ 255) :
    Calls Try.prog 25 #[.slice A n c] w fun e w' => (∃ s : ByteArray, e = .returned (.string s) ∧ s.size ≤ 2000000) ∧ Below w.heap.size w w' := by
  go_enter Try.func25, Try.ntmps25
  go_wp2_with fail
  refine (l6Open_any _ _ _ _ _ hx hc hv).mono ?_
  rintro e w1 ⟨g, rfl, hgB, hr1, hB1⟩
  go_wp2_with fail
  refine (pick_any g 0 _ _ hr1 (by omega) (by omega)).mono ?_
  rintro e w2 ⟨x, rfl, _, _, hr2, hg2⟩
  have hB2 := bgrow hB1 hg2 fun k hk => by injection hk with hk; omega
  by_cases hx : x = 0
  · subst hx
    go_wp2_with fail
    refine (pick_any g _ _ _ hr2 (by omega) (by omega)).mono ?_
    rintro e w3 ⟨y, rfl, hy0, hy1, _, hg3⟩
    replace hy1 := hy1 (by omega)
    have hy : y = 0 ∨ y = 1 := by omega
    have hB3 := bgrow hB2 hg3 fun k hk => by injection hk with hk; omega
    go_wp2_with fail
    refine (l6Many_any y hy _).mono ?_
    rintro e w' ⟨⟨s, rfl, hs⟩, rfl⟩
    go_wp2_with fail
    go_ret
    exact ⟨⟨s, rfl, by omega⟩, hB3⟩
  · have hne : (x == 0) = false := by simpa using hx
    clear hx
    go_wp2_with fail
    refine (l91Letters_any g _ 9 _ hr2 (by omega) (by omega)).mono ?_
    rintro e w3 ⟨s, rfl, hs, hr3, hg3⟩
    have hB3 := bgrow hB2 hg3 fun k hk => by injection hk with hk; omega
    go_wp2_with fail
    refine (of_new g _ _ _ _ _ (by exact hr3) (by omega) (by omega) (by rfl) (by decide)).mono ?_
    rintro e w4 ⟨t, rfl, ht, hr4, hg4⟩
    have hst : (s ++ t).size ≤ 2000000 := by rw [ByteArray.size_append]; omega
    replace hst := Lib.hid hst
    go_wp2_with fail
    go_ret
    exact ⟨⟨_, rfl, hst.out⟩, bgrow hB3 hg4 fun k hk => by injection hk with hk; omega⟩
end Go.Proofs.Ytfhadfcdfeancaa
