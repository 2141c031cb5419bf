/- The functions that draw names. No condition. -/
import Derived.Test.YtfikfihcjddgnaaDoorDraw
namespace Go.Proofs.YtfikfihcjddgnaaDoor
open Go.RowKit
theorem l91Name_any (g m : Nat) (w : World) (hr : Rdr w g m) (hm : m ≤ 90000) :
    Calls Tryd.prog 34 #[.pointer (some ⟨g, 0, none⟩)] w (DrewText w g (m + 2)) := by
  have hlt := hr.lt
  go_enter Tryd.func34, Tryd.ntmps34
  go_wp2_with fail
  refine (pick_any g m _ _ hr (by omega) (by omega)).mono ?_
  rintro e w1 ⟨x, rfl, _, _, hr1, hg1⟩
  by_cases hx : x = 0
  · subst hx
    go_wp2_with fail
    refine (of_new g (m + 1) _ _ _ _ (by exact hr1) (by omega) (by omega) (by rfl) (by decide)).mono ?_
    rintro e w2 ⟨s, rfl, hs, hr2, hg2⟩
    go_wp2_with fail
    go_ret
    exact ⟨s, rfl, hs, hr2, grown_trans hg1 hg2⟩
  · have hne : (x == 0) = false := by simpa using hx
    clear hx
    go_wp2_with fail
    refine (of_new g (m + 1) _ _ _ _ (by exact hr1) (by omega) (by omega) (by rfl) (by decide)).mono ?_
    rintro e w2 ⟨s, rfl, hs, hr2, hg2⟩
    go_wp2_with fail
    go_ret
    exact ⟨s, rfl, hs, hr2, grown_trans hg1 hg2⟩
theorem drawNameValid_any (A : Option Addr) (n c : Nat) (zs : List Int) (w : World) (hx : Rd w A n (zs.map (Value.int .u8))) (hc : n ≤ c) (hv : ∀ z ∈ zs, 0 ≤ z ∧ z ≤ 255) :
    Calls Tryd.prog 14 #[.slice A n c] w fun e w' => (∃ s : ByteArray, e = .returned (.string s) ∧ s.size ≤ 1000) ∧ Below w.heap.size w w' := by
  go_enter Tryd.func14, Tryd.ntmps14
  go_wp2_with fail
  refine (l6Open_any _ _ _ _ _ hx hc hv).mono ?_
  rintro e w1 ⟨g, rfl, hgB, hr1, hB1⟩
  go_wp2_with fail
  refine (pick_any g 0 _ _ hr1 (by omega) (by omega)).mono ?_
  rintro e w2 ⟨x, rfl, _, _, hr2, hg2⟩
  have hB2 := bgrow hB1 hg2 fun k hk => by injection hk with hk; omega
  by_cases hx : x = 0
  · subst hx
    go_wp2_with fail
    refine (of_new g 1 _ _ _ _ (by exact hr2) (by omega) (by omega) (by rfl) (by decide)).mono ?_
    rintro e w3 ⟨s, rfl, hs, _, hg3⟩
    go_wp2_with fail
    go_ret
    exact ⟨⟨s, rfl, hs⟩, bgrow hB2 hg3 fun k hk => by injection hk with hk; omega⟩
  · have hne : (x == 0) = false := by simpa using hx
    clear hx
    go_wp2_with fail
    refine (l91Name_any g 1 _ hr2 (by omega)).mono ?_
    rintro e w3 ⟨s, rfl, hs, _, hg3⟩
    go_wp2_with fail
    go_ret
    exact ⟨⟨s, rfl, hs⟩, bgrow hB2 hg3 fun k hk => by injection hk with hk; omega⟩
end Go.Proofs.YtfikfihcjddgnaaDoor
