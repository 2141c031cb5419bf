/- The program's reader reads up to a 0. No condition. -/
import Derived.Test.YtjlgkepbflcefaaDoorRAd
import Derived.Test.YtjlgkepbflcefaaDoorOld
import Derived.Test.YtjlgkepbflcefaaDoorApp
namespace Go.Proofs.YtjlgkepbflcefaaDoor
open Go.RowKit
theorem rU_hit {zs : List Int} {p : Nat} (h : p + (upTo0 (zs.drop p)).length < zs.length) : rU zs p false = (upTo0 (zs.drop p), p + (upTo0 (zs.drop p)).length + 1, false) := by
  unfold rU cut0
  rw [if_neg (by decide), if_pos (by simp; omega)]
theorem rU_miss {zs : List Int} {p : Nat} (hp : p ≤ zs.length) (h : zs.length ≤ p + (upTo0 (zs.drop p)).length) : rU zs p false = (upTo0 (zs.drop p), zs.length, true) := by
  have hl := upTo0_le (zs.drop p)
  have e : upTo0 (zs.drop p) = zs.drop p := upTo0_all (by simp at hl ⊢; omega)
  unfold rU cut0
  rw [if_neg (by decide), if_neg (by simp; omega), e]
/-- The length of a slice's value. -/
def lenV : Value → Nat
  | .slice _ n _ => n
  | _ => 0
theorem drop_take_snoc {zs : List Int} {p k : Nat} {x : Int} (h : zs[p + k]? = some x) : (zs.drop p).take k ++ [x] = (zs.drop p).take (k + 1) := by
  rw [List.take_add_one, List.getElem?_drop, h]
  rfl
set_option maxRecDepth 20000 in
set_option maxHeartbeats 2000000 in
theorem until_any (g : Nat) (zs : List Int) (p : Nat) (f : Bool) (w : World) (hr : Rin w g zs p f) (u : List Int) (p' : Nat) (f' : Bool) (h : rU zs p f = (u, p', f')) :
    Calls Tryd.prog 69 #[.pointer (some ⟨g, 0, none⟩)] w fun e w' => e = .returned (.string (strOfNums u)) ∧ Rin w' g zs p' f' ∧ w.grownBy w' (some g) := by
  have hlt := hr.lt
  have hpl := hr.place
  have hbv := hr.bytes
  have htl := upTo0_le (zs.drop p)
  rw [List.length_drop] at htl
  obtain ⟨t, ht⟩ : ∃ t, t = upTo0 (zs.drop p) := ⟨_, rfl⟩
  rw [← ht] at htl
  have hatk : ∀ k x, k < t.length → zs[p + k]? = some x → x ≠ 0 := by
    intro k x hk hx
    refine upTo0_at (l := zs.drop p) (j := k) (by rw [← ht]; exact hk) ?_
    rw [List.getElem?_drop]
    exact hx
  have hend : ∀ x, zs[p + t.length]? = some x → x = 0 := by
    intro x hx
    refine upTo0_hit (l := zs.drop p) ?_
    rw [List.getElem?_drop, ← ht]
    exact hx
  have htake : (zs.drop p).take t.length = t := by rw [ht]; exact upTo0_take _
  have hU1 : f = false → p + t.length < zs.length → u = t ∧ p' = p + t.length + 1 ∧ f' = false := by
    intro hf hl
    subst hf
    rw [rU_hit (by rw [← ht]; exact hl), ← ht] at h
    injection h with h1 h
    injection h with h2 h3
    exact ⟨h1.symm, h2.symm, h3.symm⟩
  have hU2 : f = false → zs.length ≤ p + t.length → u = t ∧ p' = zs.length ∧ f' = true := by
    intro hf hl
    subst hf
    rw [rU_miss hpl.1 (by rw [← ht]; exact hl), ← ht] at h
    injection h with h1 h
    injection h with h2 h3
    exact ⟨h1.symm, h2.symm, h3.symm⟩
  have hU3 : f = true → u = [] ∧ p' = p ∧ f' = true := by
    intro hf
    subst hf
    rw [rU_bad] at h
    injection h with h1 h
    injection h with h2 h3
    exact ⟨h1.symm, h2.symm, h3.symm⟩
  have hbnd : f = false → zs.length ≤ 120 ∧ ∀ x ∈ zs, 0 ≤ x ∧ x ≤ 255 := fun hf => bv_true.1 (hbv hf)
  replace hatk := Lib.hid hatk
  replace hend := Lib.hid hend
  replace htake := Lib.hid htake
  replace hU1 := Lib.hid hU1
  replace hU2 := Lib.hid hU2
  replace hU3 := Lib.hid hU3
  replace hbnd := Lib.hid hbnd
  clear ht h hbv
  go_enter Tryd.func69, Tryd.ntmps69
  go_wp2_with fail
  go_loopw [3] (fun v wr => ∃ k A c, v = .slice A k c ∧ k ≤ t.length ∧ Hid (f = true → k = 0) ∧ wr.ownsRow w.heap.size 3 1 (.slice A k c) k (ints ((zs.drop p).take k)) ∧ Rin wr g zs (p + k) f ∧ w.grownBy wr (some g)) (fun v _ => zs.length - lenV v)
  case atStart => exact ⟨0, none, 0, rfl, Nat.zero_le _, fun _ => rfl, World.ownsRow_nil _ _ _ _, hr, World.grownBy.refl _ _⟩
  case round =>
    clear hr
    obtain ⟨k, A, c, rfl, hk, hk0, hown, hR, hG⟩ := hrel
    obtain ⟨_, _, _, _, _, hc2, _, _, _⟩ := hR.cells
    cases f
    case true =>
      obtain rfl : k = 0 := hk0.out rfl
      obtain ⟨rfl, rfl, rfl⟩ := hU3.out rfl
      have hrx := Rd.own hown
      go_wp2_with fail
      refine (bytesText_fn A 0 c [] _ (by simpa using hrx) (by omega) (by simp)).mono ?_
      rintro e w3 ⟨rfl, hb3⟩
      go_wp2_with fail
      go_ret
      exact ⟨rfl, by simpa using hR.below hb3, grown_own hG hb3⟩
    case false =>
      obtain ⟨hz120, hzb⟩ := hbnd.out (by first | rfl | trivial)
      replace hzb := Lib.hid hzb
      by_cases hlen : p + k < zs.length
      · obtain ⟨x, hx⟩ : ∃ x, zs[p + k]? = some x := ⟨_, List.getElem?_eq_getElem hlen⟩
        have hB := rB_ok hx
        have hxb := hzb.out x (List.mem_of_getElem? hx)
        replace hx := Lib.hid hx
        replace hB := Lib.hid hB
        by_cases hkt : k < t.length
        · have hne : (x == 0) = false := by
            have := hatk.out k x hkt hx.out
            simpa using this
          go_wp2_with fail
          refine (byte_any g zs (p + k) false _ hR _ _ _ hB.out).mono ?_
          rintro e w1 ⟨rfl, hR1, hG1⟩
          have hown1 := own_pick hown hG1 hlt
          have hs1 := hG.size
          have hs2 := hG1.size
          have hown2 := hown1.alloc (.cells #[.int .i64 x] 3)
          have hlit := rd_lit w1 3 #[.int .i64 x] 1 (by omega) rfl
          clear hc2
          go_wp2_with (at_builtin; refine wpList_append_rd _ rfl _ _ rfl w.heap.size A k c ((zs.drop p).take k) rfl hown2 (some ⟨w1.heap.size, 0, none⟩) 1 1 [x] rfl hlit (by omega) (by simp; omega) ?_)
          intro A2 c2 w2 ho2 hg2
          have hR2 : Rin w2 g zs (p + (k + 1)) false := (hR1.alloc _).grow hg2 fun j hj => by have := own_frees hown2 j hj; omega
          have hG2 : w.grownBy w2 (some g) := grown_step (grown_trans (grown_trans hG hG1) (World.grownBy_alloc w1 _ _)) hg2 fun j hj => own_frees hown2 j hj
          have ho3 : w2.ownsRow w.heap.size 3 1 (.slice A2 (k + 1) c2) (k + 1) (ints ((zs.drop p).take (k + 1))) := by
            rw [← drop_take_snoc hx.out]
            simpa [ints] using ho2
          clear ho2 hg2 hR1 hG1 hown1 hown2 hlit hR hG hown
          replace hR2 := Lib.hid hR2
          replace hG2 := Lib.hid hG2
          replace ho3 := Lib.hid ho3
          go_wp2_with fail
          go_roundw
          case rel => exact ⟨k + 1, A2, c2, rfl, by omega, fun h => (by cases h), ho3.out, hR2.out, hG2.out⟩
          case measure => simp [lenV]; omega
        · obtain rfl : k = t.length := by omega
          have hx0 : x = 0 := hend.out x hx.out
          subst hx0
          obtain ⟨rfl, rfl, rfl⟩ := hU1.out (by first | rfl | trivial) hlen
          go_wp2_with fail
          refine (byte_any g zs _ false _ hR _ _ _ hB.out).mono ?_
          rintro e w1 ⟨rfl, hR1, hG1⟩
          have hown1 := own_pick hown hG1 hlt
          have hrx := Rd.own hown1
          rw [htake.out] at hrx
          have hub : ∀ y ∈ u, 0 ≤ y ∧ y ≤ 255 := by
            rw [← htake.out]
            exact fun y hy => hzb.out y (List.mem_of_mem_drop (List.mem_of_mem_take hy))
          replace hub := Lib.hid hub
          have hG1' := grown_trans hG hG1
          clear hc2 hR hG hown hown1 hG1
          go_wp2_with fail
          refine (bytesText_fn A _ c u _ hrx (by omega) hub.out).mono ?_
          rintro e w3 ⟨rfl, hb3⟩
          go_wp2_with fail
          go_ret
          exact ⟨rfl, hR1.below hb3, grown_own hG1' hb3⟩
      · have hB := rB_end (zs := zs) (p := p + k) (by omega)
        replace hB := Lib.hid hB
        obtain rfl : k = t.length := by omega
        have hpe : zs.length = p + t.length := by omega
        obtain ⟨rfl, rfl, rfl⟩ := hU2.out (by first | rfl | trivial) (by omega)
        go_wp2_with fail
        refine (byte_any g zs _ false _ hR _ _ _ hB.out).mono ?_
        rintro e w1 ⟨rfl, hR1, hG1⟩
        have hown1 := own_pick hown hG1 hlt
        have hrx := Rd.own hown1
        rw [htake.out] at hrx
        have hub : ∀ y ∈ u, 0 ≤ y ∧ y ≤ 255 := by
          rw [← htake.out]
          exact fun y hy => hzb.out y (List.mem_of_mem_drop (List.mem_of_mem_take hy))
        replace hub := Lib.hid hub
        have hG1' := grown_trans hG hG1
        rw [← hpe] at hR1
        replace hpe := Lib.hid hpe
        clear hc2 hR hG hown hown1 hG1
        go_wp2_with fail
        refine (bytesText_fn A _ c u _ hrx (by omega) hub.out).mono ?_
        rintro e w3 ⟨rfl, hb3⟩
        go_wp2_with fail
        go_ret
        exact ⟨rfl, hR1.below hb3, grown_own hG1' hb3⟩
end Go.Proofs.YtjlgkepbflcefaaDoor
