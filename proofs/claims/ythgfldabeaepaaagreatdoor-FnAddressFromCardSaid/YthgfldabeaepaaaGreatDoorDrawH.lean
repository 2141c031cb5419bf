/- The functions that draw names. No condition. -/
import Derived.Test.YthgfldabeaepaaaGreatDoorDraw
namespace Go.Proofs.YthgfldabeaepaaaGreatDoor
open Go.RowKit
theorem l91Name_any (g m : Nat) (w : World) (hr : Rdr w g m) (hm : m ≤ 90000) :
    Calls Tryz.prog 31 #[.pointer (some ⟨g, 0, none⟩)] w (DrewText w g (m + 2)) := by
  have hlt := hr.lt
  go_enter Tryz.func31, Tryz.ntmps31
  go_wp2_with fail
  refine (pick_any g m _ _ hr (by omega) (by omega)).mono ?_
  rintro e w1 ⟨x, rfl, _, _, hr1, hg1⟩
  by_cases hx : x = 0
  · subst hx
    go_wp2_with fail
    refine (of_new g (m + 1) _ _ _ _ (by exact hr1) (by omega) (by omega) (by rfl) (by decide)).mono ?_
    rintro e w2 ⟨s, rfl, hs, hr2, hg2⟩
    go_wp2_with fail
    go_ret
    exact ⟨s, rfl, hs, hr2, grown_trans hg1 hg2⟩
  · have hne : (x == 0) = false := by simpa using hx
    clear hx
    go_wp2_with fail
    refine (of_new g (m + 1) _ _ _ _ (by exact hr1) (by omega) (by omega) (by rfl) (by decide)).mono ?_
    rintro e w2 ⟨s, rfl, hs, hr2, hg2⟩
    go_wp2_with fail
    go_ret
    exact ⟨s, rfl, hs, hr2, grown_trans hg1 hg2⟩
end Go.Proofs.YthgfldabeaepaaaGreatDoor
