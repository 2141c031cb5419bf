/- The functions that draw addresses and their texts. No condition. -/
import Derived.Test.YthgfldabeaepaaaGreatDoorDrawA
import Derived.Test.YthgfldabeaepaaaGreatDoorAdT
namespace Go.Proofs.YthgfldabeaepaaaGreatDoor
open Go.RowKit
set_option maxRecDepth 20000 in
set_option maxHeartbeats 2000000 in
theorem drawAddressFrom_any (A : Option Addr) (n c : Nat) (zs : List Int) (w : World) (hx : Rd w A n (zs.map (Value.int .u8))) (hc : n ≤ c) (hv : ∀ z ∈ zs, 0 ≤ z ∧ z ≤ 255) :
    Calls Tryz.prog 4 #[.slice A n c] w fun e w' => (∃ s : ByteArray, e = .returned (.string s) ∧ s.size ≤ 1000) ∧ Below w.heap.size w w' := by
  go_enter Tryz.func4, Tryz.ntmps4
  go_wp2_with fail
  refine (l6Open_any _ _ _ _ _ hx hc hv).mono ?_
  rintro e w1 ⟨g, rfl, hgB, hr1, hB1⟩
  have hlt := hr1.lt
  go_wp2_with fail
  refine (l91Address_any g 0 _ hr1 (by omega)).mono ?_
  rintro e w2 ⟨a, A, n, c, rfl, hn, hsn, ho, hr2, hg2⟩
  have hB2 := bgrow hB1 hg2 fun k hk => by injection hk with hk; omega
  have hrq := Rd.own ho
  clear ho hg2 hB1 hr1
  go_wp2_with fail
  refine (addressText_spec a _ _ _ _ hrq (by omega)).mono ?_
  rintro e w3 ⟨rfl, hb3⟩
  have hB3 := bstep hB2 hb3
  have hr3 := hr2.below hb3
  clear hr2 hb3 hB2 hrq
  have hsz : (txt (adS a)).size ≤ 26 := by rw [txt_size]; exact adS_short a
  generalize txt (adS a) = s at hsz ⊢
  by_cases hs0 : s.size = 0
  · have he : s = ⟨#[]⟩ := empty_of_size hs0
    subst he
    go_wp2_with fail
    refine (of_new g _ _ _ _ _ (by exact hr3) (by omega) (by omega) (by rfl) (by decide)).mono ?_
    rintro e w5 ⟨s, rfl, hs, _, hg5⟩
    go_wp2_with fail
    go_ret
    exact ⟨⟨s, rfl, hs⟩, bgrow hB3 hg5 fun k hk => by injection hk with hk; omega⟩
  · have hse : s.toList.isEmpty = false := by rw [isEmpty_size2, decide_eq_false hs0]
    replace hs0 := Lib.hid hs0
    go_wp2_with fail
    refine (pick_any g _ _ _ hr3 (by omega) (by omega)).mono ?_
    rintro e w4 ⟨x, rfl, _, _, hr4, hg4⟩
    have hB4 := bgrow hB3 hg4 fun k hk => by injection hk with hk; omega
    clear hB3 hr3 hg4
    by_cases hx : x = 0
    · subst hx
      go_wp2_with fail
      refine (of_new g _ _ _ _ _ (by exact hr4) (by omega) (by omega) (by rfl) (by decide)).mono ?_
      rintro e w5 ⟨s, rfl, hs, _, hg5⟩
      go_wp2_with fail
      go_ret
      exact ⟨⟨s, rfl, hs⟩, bgrow hB4 hg5 fun k hk => by injection hk with hk; omega⟩
    · have hne : (x == 0) = false := by simpa using hx
      clear hx
      go_wp2_with fail
      go_ret
      exact ⟨⟨s, rfl, by omega⟩, hB4⟩
end Go.Proofs.YthgfldabeaepaaaGreatDoor
