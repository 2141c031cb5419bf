/- What the tests of letters and of users answer, in the program and in the reference. No condition. -/
import Derived.Test.YthgfldabeaepaaaGreatDoorHelp
import Derived.Test.YthgfldabeaepaaaGreatDoorShelf
import Derived.Lib.Bytealg
namespace Go.Proofs.YthgfldabeaepaaaGreatDoor
open Go.RowKit

theorem l2Letter_any (x : Int) (w : World) (r : Bool) (hr : letB x = r) : Calls Tryz.prog 53 #[.int .u8 x] w fun e w' => e = .returned (.bool r) ∧ w = w' := by
  subst hr
  rcases let_cases x with h | h | h | h | h | h
  · rw [letB_true.2 (.inl h)]
    obtain ⟨h1, h2⟩ := h
    go_enter Tryz.func53, Tryz.ntmps53
    go_wp2
    go_ret
    exact ⟨rfl, rfl⟩
  · rw [letB_false.2 (by omega)]
    have h1 : 97 ≤ x := by omega
    have h2 : ¬ x ≤ 57 := by omega
    have h3 : 48 ≤ x := by omega
    have h5 : ¬ x ≤ 122 := by omega
    clear h
    have h4 : (x == 45) = false := by simpa using by omega
    go_enter Tryz.func53, Tryz.ntmps53
    go_wp2
    go_ret
    exact ⟨rfl, rfl⟩
  · rw [letB_false.2 (by omega)]
    have h1 : ¬ x ≤ 57 := by omega
    have h2 : ¬ 97 ≤ x := by omega
    have h3 : 48 ≤ x := by omega
    clear h
    have h4 : (x == 45) = false := by simpa using by omega
    go_enter Tryz.func53, Tryz.ntmps53
    go_wp2
    go_ret
    exact ⟨rfl, rfl⟩
  · rw [letB_true.2 (.inr (.inl h))]
    obtain ⟨h1, h2⟩ := h
    have h3 : x < 97 := by omega
    go_enter Tryz.func53, Tryz.ntmps53
    go_wp2
    go_ret
    exact ⟨rfl, rfl⟩
  · subst h
    go_enter Tryz.func53, Tryz.ntmps53
    go_wp2
    go_ret
    exact ⟨rfl, rfl⟩
  · rw [letB_false.2 (by omega)]
    have h3 : x < 97 := by omega
    have h1 : x < 48 := h.1
    have h4 : (x == 45) = false := by simpa using h.2
    clear h
    go_enter Tryz.func53, Tryz.ntmps53
    go_wp2
    go_ret
    exact ⟨rfl, rfl⟩

theorem isLetter_any (x : Int) (w : World) (r : Bool) (hr : inR x 97 122 = r) : Calls Tryz.prog 43 #[.int .u8 x] w fun e w' => e = .returned (.bool r) ∧ w = w' := by
  subst hr
  by_cases h1 : 97 ≤ x
  · by_cases h2 : x ≤ 122
    · rw [inR_true.2 ⟨h1, h2⟩]
      go_enter Tryz.func43, Tryz.ntmps43
      go_wp2
      go_ret
      exact ⟨rfl, rfl⟩
    · rw [inR_false.2 (by omega)]
      go_enter Tryz.func43, Tryz.ntmps43
      go_wp2
      go_ret
      exact ⟨rfl, rfl⟩
  · rw [inR_false.2 (by omega)]
    go_enter Tryz.func43, Tryz.ntmps43
    go_wp2
    go_ret
    exact ⟨rfl, rfl⟩
theorem isDigit_any (x : Int) (w : World) (r : Bool) (hr : inR x 48 57 = r) : Calls Tryz.prog 56 #[.int .u8 x] w fun e w' => e = .returned (.bool r) ∧ w = w' := by
  subst hr
  by_cases h1 : 48 ≤ x
  · by_cases h2 : x ≤ 57
    · rw [inR_true.2 ⟨h1, h2⟩]
      go_enter Tryz.func56, Tryz.ntmps56
      go_wp2
      go_ret
      exact ⟨rfl, rfl⟩
    · rw [inR_false.2 (by omega)]
      go_enter Tryz.func56, Tryz.ntmps56
      go_wp2
      go_ret
      exact ⟨rfl, rfl⟩
  · rw [inR_false.2 (by omega)]
    go_enter Tryz.func56, Tryz.ntmps56
    go_wp2
    go_ret
    exact ⟨rfl, rfl⟩

theorem indexByte_any (s : ByteArray) (c : Int) (w : World) :
    Calls Tryz.prog 57 #[.string s, .int .u8 c] w fun e w' => e = .returned (.int .i64 (Lib.indexByte s.data.toList c.toNat.toUInt8)) ∧ w = w' :=
  (Tryz.strings_IndexByte s c w).mono fun _ _ ⟨he, hw⟩ => ⟨he, hw.symm⟩
/-- In "" nothing is found. -/
theorem indexByte_empty (c : Int) (w : World) : Calls Tryz.prog 57 #[.string ⟨#[]⟩, .int .u8 c] w fun e w' => e = .returned (.int .i64 (-1)) ∧ w = w' :=
  (indexByte_any ⟨#[]⟩ c w).mono fun _ _ ⟨he, hw⟩ => ⟨he, hw⟩
/-- In "-" just '-' is found. -/
theorem indexByte_dash (c : Int) (hc : 0 ≤ c ∧ c ≤ 255) (w : World) (r : Int) (hr : (if c = 45 then 0 else -1) = r) : Calls Tryz.prog 57 #[.string ⟨#[45]⟩, .int .u8 c] w fun e w' => e = .returned (.int .i64 r) ∧ w = w' := by
  refine (indexByte_any ⟨#[45]⟩ c w).mono fun _ _ ⟨he, hw⟩ => ⟨?_, hw⟩
  rw [he]
  subst hr
  by_cases h : c = 45
  · subst h
    rfl
  · have : ((45 : UInt8) == c.toNat.toUInt8) = false := by
      rw [beq_eq_false_iff_ne]
      intro e
      have := congrArg UInt8.toNat e
      simp at this
      omega
    rw [if_neg h]
    simp [Lib.indexByte, this]

/-- What 'consists' tests of a letter: with "" or with "-" besides. -/
def conB (dash : Bool) (x : Int) : Bool := if dash then letB x else ldB x
set_option maxRecDepth 20000 in
set_option maxHeartbeats 1000000 in
theorem consists_user (s : ByteArray) (w : World) (hs : s.size ≤ 9223372036854775807) (r : Bool) (hr : (sInts s).all ldB = r) :
    Calls Tryz.prog 42 #[.string s, .string ⟨#[]⟩] w fun e w' => e = .returned (.bool r) ∧ w = w' := by
  subst hr
  go_enter Tryz.func42, Tryz.ntmps42
  go_wp2
  go_loop [8] (fun i => ∃ k : Nat, k ≤ s.size ∧ i = .int .i64 k ∧ Hid (((sInts s).take k).all ldB = true)) (fun i => s.size - (intOf i).toNat)
  case atStart => exact ⟨0, Nat.zero_le _, rfl, by simp [Hid]⟩
  case round =>
    obtain ⟨k, hk, rfl, hall⟩ := hrel
    by_cases hlt : k < s.size
    · have hxk := sInts_at hlt
      replace hxk := Lib.hid hxk
      cases hL : inR (s[k].toNat : Int) 97 122 with
      | true =>
        have hok : Hid (ldB (s[k].toNat : Int) = true) := by simp [Hid, ldB, hL]
        replace hL := Lib.hid hL
        go_wp2_with (go_at_call 43; refine (isLetter_any _ _ _ hL.out).mono ?_; rintro e w' ⟨rfl, rfl⟩)
        go_round
        case rel => exact ⟨k + 1, by omega, by go_num, all_take_succ hall.out hxk.out hok.out⟩
        case measure => simp [intOf]; omega
      | false =>
        cases hD : inR (s[k].toNat : Int) 48 57 with
        | true =>
          have hok : Hid (ldB (s[k].toNat : Int) = true) := by simp [Hid, ldB, hD]
          replace hL := Lib.hid hL
          replace hD := Lib.hid hD
          go_wp2_with (first | (go_at_call 43; refine (isLetter_any _ _ _ hL.out).mono ?_; rintro e w' ⟨rfl, rfl⟩) | (go_at_call 56; refine (isDigit_any _ _ _ hD.out).mono ?_; rintro e w' ⟨rfl, rfl⟩))
          go_round
          case rel => exact ⟨k + 1, by omega, by go_num, all_take_succ hall.out hxk.out hok.out⟩
          case measure => simp [intOf]; omega
        | false =>
          have hok : Hid (ldB (s[k].toNat : Int) = false) := by simp [Hid, ldB, hD, hL]
          replace hL := Lib.hid hL
          replace hD := Lib.hid hD
          go_wp2_with (first | (go_at_call 43; refine (isLetter_any _ _ _ hL.out).mono ?_; rintro e w' ⟨rfl, rfl⟩) | (go_at_call 56; refine (isDigit_any _ _ _ hD.out).mono ?_; rintro e w' ⟨rfl, rfl⟩) | (go_at_call 57; refine (indexByte_empty _ _).mono ?_; rintro e w' ⟨rfl, rfl⟩))
          go_ret
          exact ⟨by rw [all_false_at hxk.out hok.out]; rfl, rfl⟩
    · have hk' : k = s.size := by omega
      subst hk'
      go_wp2
      go_ret
      exact ⟨by rw [all_of_take hall.out (sInts_length s)]; rfl, rfl⟩


end Go.Proofs.YthgfldabeaepaaaGreatDoor
