/- The place of the next 0, in the reference. No condition. -/
import Derived.Test.YtjlgkepbflcefaaDoorOld
import Derived.Test.YtjlgkepbflcefaaDoorHelp
namespace Go.Proofs.YtjlgkepbflcefaaDoor
open Go.RowKit
/-- The place of the next 0, or -1. -/
def endI (zs : List Int) (p : Nat) : Int := if p + (upTo0 (zs.drop p)).length < zs.length then ((p + (upTo0 (zs.drop p)).length : Nat) : Int) else -1
set_option maxRecDepth 20000 in
set_option maxHeartbeats 1000000 in
theorem l4End_any (A : Option Addr) (n c : Nat) (zs : List Int) (p : Nat) (w : World) (hx : Rd w A n (ints zs)) (hn : n ≤ 1048576) (hp : p ≤ n) :
    Calls Tryd.prog 64 #[.slice A n c, .int .i64 (p : Int)] w fun e w' => e = .returned (.int .i64 (endI zs p)) ∧ w = w' := by
  have hl := hx.ilen
  have htl := upTo0_le (zs.drop p)
  rw [List.length_drop] at htl
  obtain ⟨t, ht⟩ : ∃ t, t = (upTo0 (zs.drop p)).length := ⟨_, rfl⟩
  rw [← ht] at htl
  have hatk : ∀ k x, k < t → zs[p + k]? = some x → x ≠ 0 := by
    intro k x hk hx
    refine upTo0_at (l := zs.drop p) (j := k) (by rw [← ht]; exact hk) ?_
    rw [List.getElem?_drop]
    exact hx
  have hend : ∀ x, zs[p + t]? = some x → x = 0 := by
    intro x hx
    refine upTo0_hit (l := zs.drop p) ?_
    rw [List.getElem?_drop, ← ht]
    exact hx
  have hE1 : p + t < n → endI zs p = ((p + t : Nat) : Int) := by
    intro h
    unfold endI
    rw [← ht, if_pos (by omega)]
  have hE2 : ¬ p + t < n → endI zs p = -1 := by
    intro h
    unfold endI
    rw [← ht, if_neg (by omega)]
  replace hatk := Lib.hid hatk
  replace hend := Lib.hid hend
  replace hE1 := Lib.hid hE1
  replace hE2 := Lib.hid hE2
  replace hl := Lib.hid hl
  clear ht
  generalize endI zs p = r at hE1 hE2
  have htn : p + t ≤ n := by have := hl.out; omega
  clear htl
  go_enter Tryd.func64, Tryd.ntmps64
  go_wp2_with fail
  go_loop [5] (fun i => ∃ k : Nat, k ≤ t ∧ i = .int .i64 ((p + k : Nat) : Int)) (fun i => n - (intOf i).toNat)
  case atStart => exact ⟨0, Nat.zero_le _, rfl⟩
  case round =>
    obtain ⟨k, hk, rfl⟩ := hrel
    obtain ⟨i, hi⟩ : ∃ i, i = p + k := ⟨_, rfl⟩
    rw [← hi]
    by_cases hlt : i < n
    · obtain ⟨b1, o1, x, rfl, hxk, hc1⟩ := hx.int hlt
      have hlt' : (i : Int) < (n : Int) := by omega
      by_cases hkt : k < t
      · have hne : (x == 0) = false := by
          have := hatk.out k x hkt (by rw [← hi]; exact hxk)
          simpa using this
        replace hxk := Lib.hid hxk
        replace hi := Lib.hid hi
        go_wp2_with fail
        go_round
        case rel => exact ⟨k + 1, by omega, by have := hi.out; subst this; go_num⟩
        case measure => simp [intOf]; omega
      · obtain rfl : k = t := by omega
        have hx0 : x = 0 := hend.out x (by rw [← hi]; exact hxk)
        subst hx0
        have hr : r = (i : Int) := by rw [hE1.out (by omega), hi]
        subst hr
        replace hxk := Lib.hid hxk
        replace hi := Lib.hid hi
        go_wp2_with fail
        go_ret
        exact ⟨rfl, rfl⟩
    · have hr : r = -1 := hE2.out (by omega)
      subst hr
      have hge : ¬ (i : Int) < (n : Int) := by omega
      replace hi := Lib.hid hi
      go_wp2_with fail
      go_ret
      exact ⟨rfl, rfl⟩
end Go.Proofs.YtjlgkepbflcefaaDoor
