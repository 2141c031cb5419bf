/- The number of one to five digits, in the reference. No condition. -/
import Derived.Test.YthgfldabeaepaaaGreatDoorName
import Derived.Test.YthgfldabeaepaaaGreatDoorHelp
namespace Go.Proofs.YthgfldabeaepaaaGreatDoor
open Go.RowKit
theorem digitVal_some {b : UInt8} (h : 48 ≤ b.toNat ∧ b.toNat ≤ 57) : Lib.digitVal b = some (b.toNat - 48) := if_pos h
theorem digitVal_none {b : UInt8} (h : ¬ (48 ≤ b.toNat ∧ b.toNat ≤ 57)) : Lib.digitVal b = none := if_neg h
theorem num5_of {l : List UInt8} {m : Nat} (h : 1 ≤ l.length ∧ l.length ≤ 5) (hm : Lib.decFrom 0 l = some m) : num5 l = (m : Int) := by
  unfold num5
  rw [if_pos h, hm]
theorem num5_out {l : List UInt8} (h : ¬ (1 ≤ l.length ∧ l.length ≤ 5)) : num5 l = -1 := if_neg h
theorem num5_bad {l : List UInt8} {k : Nat} {b : UInt8} (hk : l[k]? = some b) (hb : ¬ (48 ≤ b.toNat ∧ b.toNat ≤ 57)) : num5 l = -1 := by
  unfold num5
  split
  · cases hd : Lib.decFrom 0 l with
    | none => rfl
    | some m =>
      obtain ⟨d, hd'⟩ := Lib.digit_of_decFrom l 0 m hd k b hk
      rw [digitVal_none hb] at hd'
      cases hd'
  · rfl
set_option maxRecDepth 20000 in
set_option maxHeartbeats 1000000 in
theorem l2Number_any (s : ByteArray) (w : World) (hs : s.size ≤ 9223372036854775807) :
    Calls Tryz.prog 20 #[.string s] w fun e w' => e = .returned (.int .i64 (num5 (lets s))) ∧ w = w' := by
  have hl := lets_length s
  by_cases hin : 1 ≤ s.size ∧ s.size ≤ 5
  · have hin1 : inR (s.size : Int) 1 5 = true := inR_true.2 (by omega)
    obtain ⟨r, hr⟩ : ∃ r, num5 (lets s) = r := ⟨_, rfl⟩
    rw [hr]
    replace hr := Lib.hid hr
    go_enter Tryz.func20, Tryz.ntmps20
    go_wp2_with fail
    refine (l6In_any _ _ _ _ _ hin1).mono ?_
    rintro e w1 ⟨rfl, rfl⟩
    go_wp2_with fail
    go_loop [3, 4] (fun n i => ∃ k acc : Nat, k ≤ s.size ∧ i = .int .i64 k ∧ n = .int .i64 acc ∧ acc < 10 ^ k ∧ Hid (Lib.decFrom 0 ((lets s).take k) = some acc)) (fun _ i => s.size - (intOf i).toNat)
    case atStart => exact ⟨0, 0, Nat.zero_le _, rfl, rfl, by simp, rfl⟩
    case round =>
      obtain ⟨k, acc, hk, rfl, rfl, hacc, hdec⟩ := hrel
      by_cases hlt : k < s.size
      · have hxk := lets_at hlt
        have h10 : acc < 10000 := Nat.lt_of_lt_of_le hacc (Nat.pow_le_pow_right (n := 10) (by omega) (show k ≤ 4 by omega))
        have hsk := s[k].toNat_lt
        by_cases hd : 48 ≤ (s[k]).toNat ∧ (s[k]).toNat ≤ 57
        · have hdec' : Hid (Lib.decFrom 0 ((lets s).take (k + 1)) = some (acc * 10 + ((s[k]).toNat - 48))) := Lib.decFrom_take _ _ _ _ _ _ hdec.out hxk (digitVal_some hd)
          have hacc' : acc * 10 + ((s[k]).toNat - 48) < 10 ^ (k + 1) := by rw [Nat.pow_succ]; omega
          have hlt' : (k : Int) < (s.size : Int) := by omega
          obtain ⟨d, hdd⟩ : ∃ d : Nat, d = (s[k]).toNat - 48 := ⟨_, rfl⟩
          rw [← hdd] at hdec' hacc'
          have hu8 : IntKind.u8.wrap (((s[k]).toNat : Int) - 48) = (d : Int) := by rw [IntKind.wrap_u8]; omega
          have hd9 : d ≤ 9 := by omega
          replace hxk := Lib.hid hxk
          clear hdec hacc
          replace hacc' := Lib.hid hacc'
          go_wp2_with fail
          go_round
          case rel => exact ⟨k + 1, acc * 10 + d, by omega, by go_num, by go_num, hacc'.out, hdec'⟩
          case measure => simp [intOf]; omega
        · have hres := num5_bad hxk hd
          rw [hr.out] at hres
          subst hres
          replace hxk := Lib.hid hxk
          by_cases h1 : (s[k]).toNat < 48
          · replace hd := Lib.hid hd
            go_wp2_with fail
            go_ret
            exact ⟨rfl, rfl⟩
          · have h2 : 57 < (s[k]).toNat := by omega
            replace hd := Lib.hid hd
            go_wp2_with fail
            go_ret
            exact ⟨rfl, rfl⟩
      · have hk' : k = s.size := by omega
        have hall : (lets s).take k = lets s := List.take_of_length_le (by omega)
        have hdec' := hdec.out
        rw [hall] at hdec'
        have hres := num5_of (by omega) hdec'
        rw [hr.out] at hres
        subst hres
        replace hacc := Lib.hid hacc
        have hnl : ¬ (k : Int) < (s.size : Int) := by omega
        go_wp2_with fail
        go_ret
        exact ⟨rfl, rfl⟩
  · have hin0 : inR (s.size : Int) 1 5 = false := inR_false.2 (by omega)
    rw [num5_out (by omega)]
    go_enter Tryz.func20, Tryz.ntmps20
    go_wp2_with fail
    refine (l6In_any _ _ _ _ _ hin0).mono ?_
    rintro e w1 ⟨rfl, rfl⟩
    go_wp2_with fail
    go_ret
    exact ⟨rfl, rfl⟩
end Go.Proofs.YthgfldabeaepaaaGreatDoor
