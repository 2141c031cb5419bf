/- The function that draws the numbers of bytes. No condition. -/
import Derived.Test.YtmepbopgdlhahaaDraw
import Derived.Test.YtmepbopgdlhahaaMake
namespace Go.Proofs.Ytmepbopgdlhahaa
open Go.RowKit
set_option maxHeartbeats 1000000 in
theorem drawBytesValid_any (A : Option Addr) (n c : Nat) (zs : List Int) (w : World) (hx : Rd w A n (zs.map (Value.int .u8))) (hc : n ≤ c) (hv : ∀ z ∈ zs, 0 ≤ z ∧ z ≤ 255) :
    Calls Try.prog 32 #[.slice A n c] w fun e w' => ∃ A n c zs, e = .returned (.slice A n c) ∧ n ≤ 1000 ∧ w'.ownsRow w.heap.size 3 1 (.slice A n c) n (ints zs) ∧ Below w.heap.size w w' := by
  have hm := hx.max
  go_enter Try.func32, Try.ntmps32
  go_wp2_with fail
  refine (l6Open_any _ _ _ _ _ hx hc hv).mono ?_
  rintro e w1 ⟨g, rfl, hg, hr, hB⟩
  go_wp2_with fail
  refine (l91Bytes_any g 0 9 _ hr (by omega) (by omega)).mono ?_
  rintro e w2 ⟨A, k, c, zs, rfl, hk, ho, hr2, hg2⟩
  have hlt := hr.lt
  have hsz1 := hB.size
  have hB2 := bgrow hB hg2 fun k hk => by injection hk with hk; omega
  clear hB hg2 hr
  clear hx hc hv
  by_cases hk0 : k = 0
  case pos =>
    subst hk0
    go_wp2_with fail
    refine (pick_any g _ _ _ hr2 (by omega) (by omega)).mono ?_
    rintro e w7 ⟨x, rfl, hx0, hx1, hr7, hg7⟩
    have ho7 := own_pick ho hg7 hlt
    have hB7 := bgrow hB2 hg7 fun k hk => by injection hk with hk; omega
    clear hg7 ho hr2 hB2
    by_cases h0 : x = 0
    · subst h0
      go_wp2_with fail
      refine (pick_any g _ _ _ hr7 (by omega) (by omega)).mono ?_
      rintro e w8 ⟨y, rfl, hy0, hy1, hr8, hg8⟩
      replace hy1 := hy1 (by omega)
      obtain ⟨j, rfl⟩ := Int.eq_ofNat_of_zero_le hy0
      have hB8 := bgrow hB7 hg8 fun k hk => by injection hk with hk; omega
      clear hg8 ho7 hr7 hB7
      go_wp2_with (at_make; refine wpList_make_rd _ rfl _ _ rfl w.heap.size _ _ _ _ (120 + j) rfl rfl (by omega) (by omega) (by omega) hB8.size ?_)
      intro w9 ho9 hg9
      go_wp2_with fail
      go_ret
      exact ⟨_, _, _, List.replicate (120 + j) 0, rfl, by omega, by simpa [ints] using ho9, bgrow hB8 hg9 fun k hk => by cases hk⟩
    · have hne : (x == 0) = false := by simpa using h0
      go_wp2_with fail
      go_ret
      exact ⟨_, _, _, _, rfl, by omega, own_base ho7 hsz1, hB7⟩
  case neg =>
    have hkd : decide ((0 : Int) < (k : Int)) = true := by simp; omega
    go_wp2_with fail
    refine (pick_any g _ _ _ hr2 (by omega) (by omega)).mono ?_
    rintro e w3 ⟨x, rfl, hx0, hx1, hr3, hg3⟩
    have ho3 := own_pick ho hg3 hlt
    have hB3 := bgrow hB2 hg3 fun k hk => by injection hk with hk; omega
    clear hg3
    by_cases h0 : x = 0
    · subst h0
      go_wp2_with fail
      refine (pick_any g _ _ _ hr3 (by omega) (by omega)).mono ?_
      rintro e w4 ⟨y, rfl, hy0, hy1, hr4, hg4⟩
      replace hy1 := hy1 (by omega)
      obtain ⟨j, rfl⟩ := Int.eq_ofNat_of_zero_le hy0
      have ho4 := own_pick ho3 hg4 hlt
      have hB4 := bgrow hB3 hg4 fun k hk => by injection hk with hk; omega
      clear hg4
      go_wp2_with fail
      refine (pick_any g _ _ _ (hr4.alloc _) (by omega) (by omega)).mono ?_
      rintro e w5 ⟨z, rfl, hz0, hz1, hr5, hg5⟩
      replace hz1 := hz1 (by omega)
      obtain ⟨q, rfl⟩ := Int.eq_ofNat_of_zero_le hz0
      have hrd : Rd w5 (some ⟨w4.heap.size, 0, none⟩) 3 (ints [-1, 256, 255]) := (rd_lit w4 3 #[.int .i64 (-1), .int .i64 256, .int .i64 255] 3 (by omega) rfl).grown hg5 (.inr (new_ne hr4))
      have ho5 := own_pick (ho4.alloc (.cells #[.int .i64 (-1), .int .i64 256, .int .i64 255] 3)) hg5 hlt
      have hB5 := bgrow (bstep hB4 ((Below.refl _ _).alloc (Nat.le_refl _) (.cells #[.int .i64 (-1), .int .i64 256, .int .i64 255] 3))) hg5 fun k hk => by injection hk with hk; omega
      generalize hA2 : (some (⟨w4.heap.size, 0, none⟩ : Addr)) = A2 at hrd ⊢
      obtain ⟨b1, o1, u, rfl, hu, hcu⟩ := hrd.int (k := q) (by omega)
      clear hA2 hrd hg5 hr4 ho4 hu
      obtain ⟨g', rfl, hBg, hgw, hcell, hfz, hset⟩ := own_block ho5 (by omega)
      have hl : (ints zs).length = k := by simpa using ho5.1
      have hc4 : w5.cell? ⟨g', j, none⟩ = some ((ints zs)[j]'(by omega)) := by
        rw [hcell j (by omega)]
        exact List.getElem?_eq_getElem (by omega)
      generalize (ints zs)[j]'(by omega) = old at hc4
      have hf4 := hfz j
      obtain ⟨hs1, hs2⟩ := hset j (.int .i64 u)
      rw [show (ints zs).set j (.int .i64 u) = ints (zs.set j u) by simp [ints, List.map_set]] at hs1
      have hB6 := bgrow hB5 hs2 (fun q hq => by injection hq with hq; omega)
      have hr6 := hr5.grow hs2 (fun q hq => by injection hq with hq; omega)
      clear hcell hfz hset hs2 hl ho5
      go_wp2_with fail
      refine (pick_any g _ _ _ hr6 (by omega) (by omega)).mono ?_
      rintro e w7 ⟨x, rfl, hx0, hx1, hr7, hg7⟩
      have ho7 := own_pick hs1 hg7 hlt
      have hB7 := bgrow hB6 hg7 fun k hk => by injection hk with hk; omega
      clear hg7 hs1 hr6 hB6
      by_cases h0 : x = 0
      · subst h0
        go_wp2_with fail
        refine (pick_any g _ _ _ hr7 (by omega) (by omega)).mono ?_
        rintro e w8 ⟨y, rfl, hy0, hy1, hr8, hg8⟩
        replace hy1 := hy1 (by omega)
        obtain ⟨j, rfl⟩ := Int.eq_ofNat_of_zero_le hy0
        have hB8 := bgrow hB7 hg8 fun k hk => by injection hk with hk; omega
        clear hg8 ho7 hr7 hB7
        go_wp2_with (at_make; refine wpList_make_rd _ rfl _ _ rfl w.heap.size _ _ _ _ (120 + j) rfl rfl (by omega) (by omega) (by omega) hB8.size ?_)
        intro w9 ho9 hg9
        go_wp2_with fail
        go_ret
        exact ⟨_, _, _, List.replicate (120 + j) 0, rfl, by omega, by simpa [ints] using ho9, bgrow hB8 hg9 fun k hk => by cases hk⟩
      · have hne : (x == 0) = false := by simpa using h0
        go_wp2_with fail
        go_ret
        exact ⟨_, _, _, _, rfl, by omega, own_base ho7 hsz1, hB7⟩
    · have hne : (x == 0) = false := by simpa using h0
      go_wp2_with fail
      refine (pick_any g _ _ _ hr3 (by omega) (by omega)).mono ?_
      rintro e w7 ⟨x, rfl, hx0, hx1, hr7, hg7⟩
      have ho7 := own_pick ho3 hg7 hlt
      have hB7 := bgrow hB3 hg7 fun k hk => by injection hk with hk; omega
      clear hg7 ho3 hr3 hB3
      by_cases h0 : x = 0
      · subst h0
        go_wp2_with fail
        refine (pick_any g _ _ _ hr7 (by omega) (by omega)).mono ?_
        rintro e w8 ⟨y, rfl, hy0, hy1, hr8, hg8⟩
        replace hy1 := hy1 (by omega)
        obtain ⟨j, rfl⟩ := Int.eq_ofNat_of_zero_le hy0
        have hB8 := bgrow hB7 hg8 fun k hk => by injection hk with hk; omega
        clear hg8 ho7 hr7 hB7
        go_wp2_with (at_make; refine wpList_make_rd _ rfl _ _ rfl w.heap.size _ _ _ _ (120 + j) rfl rfl (by omega) (by omega) (by omega) hB8.size ?_)
        intro w9 ho9 hg9
        go_wp2_with fail
        go_ret
        exact ⟨_, _, _, List.replicate (120 + j) 0, rfl, by omega, by simpa [ints] using ho9, bgrow hB8 hg9 fun k hk => by cases hk⟩
      · have hne : (x == 0) = false := by simpa using h0
        go_wp2_with fail
        go_ret
        exact ⟨_, _, _, _, rfl, by omega, own_base ho7 hsz1, hB7⟩
end Go.Proofs.Ytmepbopgdlhahaa
