/- What BytesValid and QuadValid answer, in the program and in the reference. No condition. -/
import Derived.Test.YthgfldabeaepaaaGreatDoorHelp
namespace Go.Proofs.YthgfldabeaepaaaGreatDoor
open Go.RowKit

set_option maxRecDepth 20000 in
set_option maxHeartbeats 400000 in
theorem bytesValid_spec (A : Option Addr) (n c : Nat) (zs : List Int) (w : World) (hx : Rd w A n (ints zs)) (r : Bool) (hr : bv zs = r) :
    Calls Tryz.prog 52 #[.slice A n c] w fun e w' => e = .returned (.bool r) ∧ w = w' := by
  have hl := hx.ilen
  have hm := hx.max
  rw [bv_eq hl] at hr
  replace hl := Lib.hid hl
  replace hr := Lib.hid hr
  obtain ⟨q, hq⟩ : ∃ q, decide ((n : Int) ≤ 120) = q := ⟨_, rfl⟩
  have hq' : Hid (decide (n ≤ 120) = q) := by rw [← hq]; exact decide_eq_decide.2 (by omega)
  go_enter Tryz.func52, Tryz.ntmps52
  go_wp2
  go_loop [3] (fun i => ∃ k : Nat, k ≤ n ∧ i = .int .i64 k ∧ Hid ((zs.take k).all inB = true)) (fun i => n - (intOf i).toNat)
  case atStart => exact ⟨0, Nat.zero_le _, rfl, by simp [Hid]⟩
  case round =>
    obtain ⟨k, hk, rfl, hall⟩ := hrel
    by_cases hlt : k < n
    · obtain ⟨b1, o1, x, rfl, hxk, hc1⟩ := hx.int hlt
      replace hxk := Lib.hid hxk
      cases hin : inB x with
      | true =>
        go_wp2_with (go_at_call 37; refine (l6In_any _ _ _ _ _ hin).mono ?_; rintro e w' ⟨rfl, rfl⟩)
        go_round
        case rel => exact ⟨k + 1, by omega, by go_num, all_take_succ hall.out hxk.out hin⟩
        case measure => simp [intOf]; omega
      | false =>
        go_wp2_with (go_at_call 37; refine (l6In_any _ _ _ _ _ hin).mono ?_; rintro e w' ⟨rfl, rfl⟩)
        go_ret
        have er : r = false := by rw [← hr.out, all_false_at hxk.out hin, Bool.and_false]
        exact ⟨by rw [er]; rfl, rfl⟩
    · have hk' : Hid (k = n) := by have : k = n := by omega
                                   exact this
      go_wp2
      go_ret
      have er : r = q := by rw [← hr.out, hq'.out, all_of_take (by have := hall.out; rwa [hk'.out] at this) hl.out, Bool.and_true]
      exact ⟨by rw [er]; rfl, rfl⟩

theorem bytesValid_lit (x : Int) (w : World) (r : Bool) (hr : inB x = r) : Calls Tryz.prog 55 #[.int .i64 x] w fun e w' => e = .returned (.bool (!r)) ∧ w = w' := by
  cases r
  all_goals
    go_enter Tryz.func55, Tryz.ntmps55
    go_wp2_with (go_at_call 41; refine (within_any _ _ _ _ _ hr).mono ?_; rintro e w' ⟨rfl, rfl⟩)
    go_ret
    exact ⟨rfl, rfl⟩

/-- An index of what is not all right, or -1. -/
def FoundBy (all : Bool) (e : Ending) : Prop := ∃ r : Int, e = .returned (.int .i64 r) ∧ (all = true → r = -1) ∧ (all = false → 0 ≤ r)
set_option maxRecDepth 20000 in
set_option maxHeartbeats 400000 in
theorem indexFunc_bytes (A : Option Addr) (n c : Nat) (zs : List Int) (w : World) (hx : Rd w A n (ints zs)) :
    Calls Tryz.prog 72 #[.slice A n c, .func (.func 55) #[] #[]] w fun e w' => FoundBy (zs.all inB) e ∧ w = w' := by
  have hl := hx.ilen
  have hm := hx.max
  replace hl := Lib.hid hl
  go_enter Tryz.func72, Tryz.ntmps72
  go_wp2
  go_loop [8] (fun i => ∃ k : Nat, k ≤ n ∧ i = .int .i64 k ∧ Hid ((zs.take k).all inB = true)) (fun i => n - (intOf i).toNat)
  case atStart => exact ⟨0, Nat.zero_le _, rfl, by simp [Hid]⟩
  case round =>
    obtain ⟨k, hk, rfl, hall⟩ := hrel
    by_cases hlt : k < n
    · obtain ⟨b1, o1, x, rfl, hxk, hc1⟩ := hx.int hlt
      replace hxk := Lib.hid hxk
      cases hin : inB x with
      | true =>
        go_wp2_with (go_at_call 55; refine (bytesValid_lit _ _ _ hin).mono ?_; rintro e w' ⟨rfl, rfl⟩)
        go_round
        case rel => exact ⟨k + 1, by omega, by go_num, all_take_succ hall.out hxk.out hin⟩
        case measure => simp [intOf]; omega
      | false =>
        go_wp2_with (go_at_call 55; refine (bytesValid_lit _ _ _ hin).mono ?_; rintro e w' ⟨rfl, rfl⟩)
        go_ret
        have er := all_false_at hxk.out hin
        exact ⟨⟨k, rfl, (fun h => by rw [er] at h; cases h), fun _ => by omega⟩, rfl⟩
    · have hk' : Hid (k = n) := by have : k = n := by omega
                                   exact this
      go_wp2
      go_ret
      have er : zs.all inB = true := all_of_take (by have := hall.out; rwa [hk'.out] at this) hl.out
      exact ⟨⟨-1, rfl, fun _ => rfl, fun h => by rw [er] at h; cases h⟩, rfl⟩

theorem containsFunc_bytes (A : Option Addr) (n c : Nat) (zs : List Int) (w : World) (hx : Rd w A n (ints zs)) (r : Bool) (hr : zs.all inB = r) :
    Calls Tryz.prog 54 #[.slice A n c, .func (.func 55) #[] #[]] w fun e w' => e = .returned (.bool (!r)) ∧ w = w' := by
  replace hr := Lib.hid hr
  go_enter Tryz.func54, Tryz.ntmps54
  go_wp2_with fail
  refine (indexFunc_bytes _ _ _ _ _ hx).mono ?_
  rintro e w' ⟨⟨q, rfl, h1, h2⟩, rfl⟩
  rw [hr.out] at h1 h2
  cases r with
  | true =>
    have hq := h1 rfl
    subst hq
    clear h1 h2
    go_wp2
    go_ret
    exact ⟨rfl, rfl⟩
  | false =>
    have hq := h2 rfl
    clear h1 h2
    have hd : decide (0 ≤ q) = true := by simpa using hq
    go_wp2
    go_ret
    exact ⟨rfl, rfl⟩

theorem bytesValid_impl (A : Option Addr) (n c : Nat) (zs : List Int) (w : World) (hx : Rd w A n (ints zs)) (r : Bool) (hr : bv zs = r) :
    Calls Tryz.prog 40 #[.slice A n c] w fun e w' => e = .returned (.bool r) ∧ w = w' := by
  have hl := hx.ilen
  have hm := hx.max
  rw [bv_eq hl] at hr
  replace hr := Lib.hid hr
  clear hl
  by_cases h120 : n ≤ 120
  · have h120' : (n : Int) ≤ 120 := by omega
    obtain ⟨q, hall⟩ : ∃ q, zs.all inB = q := ⟨_, rfl⟩
    have er : r = q := by rw [← hr.out, hall, decide_eq_true h120, Bool.true_and]
    subst er
    replace hall := Lib.hid hall
    clear hr h120
    go_enter Tryz.func40, Tryz.ntmps40
    go_wp2_with (go_at_call 54; refine (containsFunc_bytes _ _ _ _ _ hx _ hall.out).mono ?_; rintro e w' ⟨rfl, rfl⟩)
    go_ret
    exact ⟨by simp, rfl⟩
  · have er : r = false := by rw [← hr.out, decide_eq_false h120, Bool.false_and]
    subst er
    have hd : decide ((n : Int) ≤ 120) = false := by simp; omega
    clear hr
    go_enter Tryz.func40, Tryz.ntmps40
    go_wp2
    go_ret
    exact ⟨rfl, rfl⟩

theorem qv_eq {zs : List Int} {n : Nat} (hl : zs.length = n) : qv zs = (decide (n = 4) && bv zs) := by subst hl; rfl
theorem quadValid_spec (A : Option Addr) (n c : Nat) (zs : List Int) (w : World) (hx : Rd w A n (ints zs)) (r : Bool) (hr : qv zs = r) :
    Calls Tryz.prog 38 #[.slice A n c] w fun e w' => e = .returned (.bool r) ∧ w = w' := by
  have hm := hx.max
  rw [qv_eq hx.ilen] at hr
  obtain ⟨q, hq⟩ : ∃ q, bv zs = q := ⟨_, rfl⟩
  rw [hq] at hr
  replace hq := Lib.hid hq
  have h4 : ((n : Int) == 4) = decide (n = 4) := by rw [Bool.eq_iff_iff]; simp; omega
  obtain ⟨p, hp⟩ : ∃ p, decide (n = 4) = p := ⟨_, rfl⟩
  rw [hp] at h4 hr
  replace hp := Lib.hid hp
  cases q with
  | false =>
    have er : r = false := by rw [← hr, Bool.and_false]
    subst er
    clear hr
    go_enter Tryz.func38, Tryz.ntmps38
    go_wp2_with (go_at_call 52; refine (bytesValid_spec _ _ _ _ _ hx _ hq.out).mono ?_; rintro e w' ⟨rfl, rfl⟩)
    go_ret
    exact ⟨rfl, rfl⟩
  | true =>
    have er : r = p := by rw [← hr, Bool.and_true]
    subst er
    clear hr
    go_enter Tryz.func38, Tryz.ntmps38
    go_wp2_with (go_at_call 52; refine (bytesValid_spec _ _ _ _ _ hx _ hq.out).mono ?_; rintro e w' ⟨rfl, rfl⟩)
    go_ret
    exact ⟨rfl, rfl⟩
theorem quadValid_impl (A : Option Addr) (n c : Nat) (zs : List Int) (w : World) (hx : Rd w A n (ints zs)) (r : Bool) (hr : qv zs = r) :
    Calls Tryz.prog 23 #[.slice A n c] w fun e w' => e = .returned (.bool r) ∧ w = w' := by
  have hm := hx.max
  rw [qv_eq hx.ilen] at hr
  obtain ⟨q, hq⟩ : ∃ q, bv zs = q := ⟨_, rfl⟩
  rw [hq] at hr
  replace hq := Lib.hid hq
  have h4 : ((n : Int) == 4) = decide (n = 4) := by rw [Bool.eq_iff_iff]; simp; omega
  obtain ⟨p, hp⟩ : ∃ p, decide (n = 4) = p := ⟨_, rfl⟩
  rw [hp] at h4 hr
  replace hp := Lib.hid hp
  cases p with
  | false =>
    have er : r = false := by rw [← hr, Bool.false_and]
    subst er
    clear hr
    go_enter Tryz.func23, Tryz.ntmps23
    go_wp2
    go_ret
    exact ⟨rfl, rfl⟩
  | true =>
    have er : r = q := by rw [← hr, Bool.true_and]
    subst er
    clear hr
    go_enter Tryz.func23, Tryz.ntmps23
    go_wp2_with (go_at_call 40; refine (bytesValid_impl _ _ _ _ _ hx _ hq.out).mono ?_; rintro e w' ⟨rfl, rfl⟩)
    go_ret
    exact ⟨rfl, rfl⟩
end Go.Proofs.YthgfldabeaepaaaGreatDoor
