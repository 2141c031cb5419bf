/- The function that draws bytes that often begin with a request. No condition. -/
import Derived.Test.YtjlgkepbflcefaaDoorDrawC
import Derived.Test.YtjlgkepbflcefaaDoorDrawO
import Derived.Test.YtjlgkepbflcefaaDoorOB
namespace Go.Proofs.YtjlgkepbflcefaaDoor
open Go.RowKit
theorem odO_take {zs : List Int} {x : Od} {n : Nat} (h : odO zs = (x, n, true)) : odV x = true ∧ n ≤ zs.length ∧ odB x = zs.take n := by
  obtain ⟨hv, _, rfl, r, rfl⟩ := odO_true h
  exact ⟨hv, by simp, by simp⟩
set_option maxRecDepth 20000 in
set_option maxHeartbeats 1000000 in
theorem drawOldFrom_any (A : Option Addr) (n c : Nat) (zs : List Int) (w : World) (hx : Rd w A n (zs.map (Value.int .u8))) (hc : n ≤ c) (hv : ∀ z ∈ zs, 0 ≤ z ∧ z ≤ 255) :
    Calls Tryd.prog 41 #[.slice A n c] w (DrawnI w) := by
  go_enter Tryd.func41, Tryd.ntmps41
  go_wp2_with fail
  refine (l6Open_any A n c zs _ hx hc hv).mono ?_
  rintro e w1 ⟨g, rfl, hge, hr1, hB1⟩
  have hs1 := hB1.size
  go_wp2_with fail
  refine (l91Old_any g 0 _ hr1 (by omega)).mono ?_
  rintro e w2 ⟨x, A2, n2, c2, rfl, ⟨hn2, hnm, hus⟩, ho, hr2, hg2⟩
  have hg2w : g < w1.heap.size := hr1.lt
  have hB2 : Below w.heap.size w w2 := bgrow hB1 hg2 fun k hk => by injection hk with hk; omega
  have hs2 := hg2.size
  clear hg2 hr1 hB1
  obtain ⟨ys, b, hf⟩ : ∃ ys b, odW x = (ys, b) := ⟨_, _, rfl⟩
  have hyl := odW_length hf
  replace hf := Lib.hid hf
  go_wp2_with fail
  refine (oldBytes_spec x A2 n2 c2 _ (Rd.own ho) (by omega) (by omega) _ _ hf.out).mono ?_
  rintro e w3 ⟨A3, n3, c3, rfl, ho3, hb3⟩
  have hB3 := bstep hB2 hb3
  have hr3 := hr2.below hb3
  have hl3 := (Rd.own ho3).ilen
  have hs3 := hb3.size
  clear hb3 hB2 hr2 ho hf
  go_wp2_with fail
  refine (l91Changed_any g _ w2.heap.size n3 c3 A3 ys w.heap.size w _ hB3 (by omega) (by omega) hr3 (by omega) ho3 (by omega) hs3).mono ?_
  rintro e w4 ⟨A4, n4, c4, us, rfl, hn4, ho4, hB4⟩
  go_wp2_with fail
  go_ret
  exact ⟨A4, n4, c4, us, rfl, hn4, own_base ho4 (by omega), hB4⟩
end Go.Proofs.YtjlgkepbflcefaaDoor
