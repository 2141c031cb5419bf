/- What the tests of methods, HelloBytes and HelloPick return, in the program and in the reference. No condition. -/
import Derived.Test.YtfikfihcjddgnaaApp
namespace Go.Proofs.Ytfikfihcjddgnaa
open Go.RowKit

theorem contains_take_succ {zs : List Int} {k : Nat} {x v : Int} (h : (zs.take k).contains v = false) (hx : zs[k]? = some x) (hne : x ≠ v) : (zs.take (k + 1)).contains v = false := by
  rw [List.take_add_one, hx]
  simp only [List.contains_eq_mem, decide_eq_false_iff_not, List.mem_append, Option.toList_some, List.mem_singleton, not_or] at h ⊢
  exact ⟨h, fun e => hne e.symm⟩
theorem contains_at {zs : List Int} {k : Nat} {v : Int} (hx : zs[k]? = some v) : zs.contains v = true := by
  simp only [List.contains_eq_mem, decide_eq_true_eq]
  exact List.mem_of_getElem? hx

/-- An index of what is there, or -1. -/
def FoundIn (there : Bool) (e : Ending) : Prop := ∃ r : Int, e = .returned (.int .i64 r) ∧ (there = false → r = -1) ∧ (there = true → 0 ≤ r)
set_option maxHeartbeats 400000 in
theorem l5Has_any (A : Option Addr) (n c : Nat) (zs : List Int) (v : Int) (w : World) (hx : Rd w A n (ints zs)) (r : Bool) (hr : zs.contains v = r) :
    Calls Try.prog 25 #[.slice A n c, .int .i64 v] w fun e w' => e = .returned (.bool r) ∧ w = w' := by
  have hl := hx.ilen
  have hm := hx.max
  replace hl := Lib.hid hl
  replace hr := Lib.hid hr
  go_enter Try.func25, Try.ntmps25
  go_wp2
  go_loop [5] (fun i => ∃ k : Nat, k ≤ n ∧ i = .int .i64 k ∧ Hid ((zs.take k).contains v = false)) (fun i => n - (intOf i).toNat)
  case atStart => exact ⟨0, Nat.zero_le _, rfl, by simp [Hid]⟩
  case round =>
    obtain ⟨k, hk, rfl, hno⟩ := hrel
    by_cases hlt : k < n
    · obtain ⟨b1, o1, x, rfl, hxk, hc1⟩ := hx.int hlt
      replace hxk := Lib.hid hxk
      by_cases hxv : x = v
      · have he : (x == v) = true := by simpa using hxv
        replace hxv := Lib.hid hxv
        go_wp2
        go_ret
        have er : r = true := by rw [← hr.out, ← hxv.out, contains_at hxk.out]
        exact ⟨by rw [er]; rfl, rfl⟩
      · have he : (x == v) = false := by simpa using hxv
        replace hxv := Lib.hid hxv
        go_wp2
        go_round
        case rel => exact ⟨k + 1, by omega, by go_num, contains_take_succ hno.out hxk.out hxv.out⟩
        case measure => simp [intOf]; omega
    · have hk' : Hid (k = n) := by have : k = n := by omega
                                   exact this
      go_wp2
      go_ret
      have er : r = false := by
        have := hno.out
        rw [hk'.out, List.take_of_length_le (Nat.le_of_eq hl.out)] at this
        rw [← hr.out, this]
      exact ⟨by rw [er]; rfl, rfl⟩
set_option maxHeartbeats 2000000 in
theorem l5Ok_any (A : Option Addr) (n c : Nat) (zs : List Int) (w : World) (hx : Rd w A n (ints zs)) (hc : n ≤ c) (r : Bool) (hr : methV zs = r) :
    Calls Try.prog 16 #[.slice A n c] w fun e w' => e = .returned (.bool r) ∧ Below w.heap.size w w' := by
  have hl := hx.ilen
  have hm := hx.max
  rw [methV_eq hl] at hr
  obtain ⟨q, hq⟩ : ∃ q, inR n 1 8 = q := ⟨_, rfl⟩
  rw [hq] at hr
  replace hl := Lib.hid hl
  replace hr := Lib.hid hr
  replace hq := Lib.hid hq
  go_enter Try.func16, Try.ntmps16
  go_wp2
  go_loopw [3] (fun i wr => ∃ k : Nat, k ≤ n ∧ i = .int .i64 k ∧ Hid (mUpTo zs k = true) ∧ Below w.heap.size w wr) (fun i _ => n - (intOf i).toNat)
  case atStart => exact ⟨0, Nat.zero_le _, rfl, mUpTo_zero zs, Below.refl _ _⟩
  case round =>
    obtain ⟨k, hk, rfl, hup, hb⟩ := hrel
    by_cases hlt : k < n
    · have hxr := hx.below hb
      have htk := hxr.take (k := k) (by omega)
      rw [← List.map_take] at htk
      obtain ⟨b1, o1, x, rfl, hxk, hc1⟩ := hxr.int hlt
      replace hxk := Lib.hid hxk
      have hkc : k ≤ c := by omega
      have hlt' : (k : Int) < (n : Int) := by omega
      obtain ⟨p1, hp1⟩ : ∃ p, inR x 0 254 = p := ⟨_, rfl⟩
      obtain ⟨p2, hp2⟩ : ∃ p, (zs.take k).contains x = p := ⟨_, rfl⟩
      replace hp1 := Lib.hid hp1
      replace hp2 := Lib.hid hp2
      cases p1 with
      | false =>
        have er : r = false := by rw [← hr.out, mUpTo_bad hlt hxk.out (.inl hp1.out), Bool.false_and]
        replace er := Lib.hid er
        go_wp2_with (go_quiet ((first | (go_at_call 24; exact quiet_same (l6In_any _ _ _ _ _ hp1.out)))))
        go_ret
        exact ⟨by rw [er.out]; rfl, bdrewN hb _⟩
      | true =>
        cases p2 with
        | true =>
          have er : r = false := by rw [← hr.out, mUpTo_bad hlt hxk.out (.inr hp2.out), Bool.false_and]
          replace er := Lib.hid er
          go_wp2_with (go_quiet ((first | (go_at_call 24; exact quiet_same (l6In_any _ _ _ _ _ hp1.out)) | (go_at_call 25; exact quiet_same (l5Has_any _ _ _ _ _ _ (htk.drewN _) _ hp2.out)))))
          go_ret
          exact ⟨by rw [er.out]; rfl, bdrewN hb _⟩
        | false =>
          go_wp2_with (go_quiet ((first | (go_at_call 24; exact quiet_same (l6In_any _ _ _ _ _ hp1.out)) | (go_at_call 25; exact quiet_same (l5Has_any _ _ _ _ _ _ (htk.drewN _) _ hp2.out)))))
          go_roundw
          case rel => exact ⟨k + 1, by omega, by go_num, mUpTo_succ hup.out hxk.out hp1.out hp2.out, bdrewN hb _⟩
          case measure => simp [intOf]; omega
    · have hk' : Hid (k = n) := by have : k = n := by omega
                                   exact this
      have er : r = q := by
        rw [← hr.out]
        have := hup.out
        rw [hk'.out] at this
        rw [this, Bool.true_and]
      replace er := Lib.hid er
      go_wp2_with (go_at_call 24; refine (l6In_any _ _ _ _ _ hq.out).mono ?_; rintro e w' ⟨rfl, rfl⟩)
      go_ret
      exact ⟨by rw [er.out]; rfl, hb⟩
set_option maxHeartbeats 400000 in
theorem index_int (A : Option Addr) (n c : Nat) (zs : List Int) (v : Int) (w : World) (hx : Rd w A n (ints zs)) :
    Calls Try.prog 29 #[.slice A n c, .int .i64 v] w fun e w' => FoundIn (zs.contains v) e ∧ w = w' := by
  have hl := hx.ilen
  have hm := hx.max
  replace hl := Lib.hid hl
  go_enter Try.func29, Try.ntmps29
  go_wp2
  go_loop [8] (fun i => ∃ k : Nat, k ≤ n ∧ i = .int .i64 k ∧ Hid ((zs.take k).contains v = false)) (fun i => n - (intOf i).toNat)
  case atStart => exact ⟨0, Nat.zero_le _, rfl, by simp [Hid]⟩
  case round =>
    obtain ⟨k, hk, rfl, hno⟩ := hrel
    by_cases hlt : k < n
    · obtain ⟨b1, o1, x, rfl, hxk, hc1⟩ := hx.int hlt
      replace hxk := Lib.hid hxk
      by_cases hxv : x = v
      · have he : (v == x) = true := by simpa using hxv.symm
        have er : zs.contains v = true := by rw [← hxv, contains_at hxk.out]
        replace er := Lib.hid er
        clear hxv
        go_wp2
        go_ret
        exact ⟨⟨k, rfl, (fun h => absurd (show zs.contains v = false by simpa using h) (by rw [er.out]; simp)), fun _ => by omega⟩, rfl⟩
      · have he : (v == x) = false := by simpa using fun e => hxv e.symm
        replace hxv := Lib.hid hxv
        go_wp2
        go_round
        case rel => exact ⟨k + 1, by omega, by go_num, contains_take_succ hno.out hxk.out hxv.out⟩
        case measure => simp [intOf]; omega
    · have hk' : Hid (k = n) := by have : k = n := by omega
                                   exact this
      go_wp2
      go_ret
      have er : zs.contains v = false := by
        have := hno.out
        rwa [hk'.out, List.take_of_length_le (Nat.le_of_eq hl.out)] at this
      exact ⟨⟨-1, rfl, fun _ => rfl, (fun h => absurd (show zs.contains v = true by simpa using h) (by rw [er]; simp))⟩, rfl⟩
theorem contains_int (A : Option Addr) (n c : Nat) (zs : List Int) (v : Int) (w : World) (hx : Rd w A n (ints zs)) (r : Bool) (hr : zs.contains v = r) :
    Calls Try.prog 23 #[.slice A n c, .int .i64 v] w fun e w' => e = .returned (.bool r) ∧ w = w' := by
  replace hr := Lib.hid hr
  go_enter Try.func23, Try.ntmps23
  go_wp2_with fail
  refine (index_int _ _ _ _ _ _ hx).mono ?_
  rintro e w' ⟨⟨q, rfl, h1, h2⟩, rfl⟩
  rw [hr.out] at h1 h2
  cases r with
  | false =>
    have hq := h1 rfl
    subst hq
    clear h1 h2
    go_wp2
    go_ret
    exact ⟨rfl, rfl⟩
  | true =>
    have hq := h2 rfl
    clear h1 h2
    have hd : decide (0 ≤ q) = true := by simpa using hq
    go_wp2
    go_ret
    exact ⟨rfl, rfl⟩
set_option maxHeartbeats 2000000 in
theorem areMethods_any (A : Option Addr) (n c : Nat) (zs : List Int) (w : World) (hx : Rd w A n (ints zs)) (hc : n ≤ c) (r : Bool) (hr : methV zs = r) :
    Calls Try.prog 15 #[.slice A n c] w fun e w' => e = .returned (.bool r) ∧ w = w' := by
  have hl := hx.ilen
  have hm := hx.max
  rw [methV_eq hl] at hr
  obtain ⟨q, hq⟩ : ∃ q, inR n 1 8 = q := ⟨_, rfl⟩
  rw [hq] at hr
  replace hl := Lib.hid hl
  replace hr := Lib.hid hr
  replace hq := Lib.hid hq
  go_enter Try.func15, Try.ntmps15
  go_wp2
  go_loop [7] (fun i => ∃ k : Nat, k ≤ n ∧ i = .int .i64 k ∧ Hid (mUpTo zs k = true)) (fun i => n - (intOf i).toNat)
  case atStart => exact ⟨0, Nat.zero_le _, rfl, mUpTo_zero zs⟩
  case round =>
    obtain ⟨k, hk, rfl, hup⟩ := hrel
    by_cases hlt : k < n
    · have htk := hx.take (k := k) (by omega)
      rw [← List.map_take] at htk
      obtain ⟨b1, o1, x, rfl, hxk, hc1⟩ := hx.int hlt
      replace hxk := Lib.hid hxk
      have hkc : k ≤ c := by omega
      have hlt' : (k : Int) < (n : Int) := by omega
      obtain ⟨p1, hp1⟩ : ∃ p, inR x 0 254 = p := ⟨_, rfl⟩
      obtain ⟨p2, hp2⟩ : ∃ p, (zs.take k).contains x = p := ⟨_, rfl⟩
      replace hp1 := Lib.hid hp1
      replace hp2 := Lib.hid hp2
      cases p1 with
      | false =>
        have er : r = false := by rw [← hr.out, mUpTo_bad hlt hxk.out (.inl hp1.out), Bool.false_and]
        replace er := Lib.hid er
        go_wp2_with (go_at_call 22; refine (within_any _ _ _ _ _ hp1.out).mono ?_; rintro e w' ⟨rfl, rfl⟩)
        go_ret
        exact ⟨by rw [er.out]; rfl, rfl⟩
      | true =>
        cases p2 with
        | true =>
          have er : r = false := by rw [← hr.out, mUpTo_bad hlt hxk.out (.inr hp2.out), Bool.false_and]
          replace er := Lib.hid er
          go_wp2_with (first | (go_at_call 22; refine (within_any _ _ _ _ _ hp1.out).mono ?_; rintro e w' ⟨rfl, rfl⟩) | (go_at_call 23; refine (contains_int _ _ _ _ _ _ htk _ hp2.out).mono ?_; rintro e w' ⟨rfl, rfl⟩))
          go_ret
          exact ⟨by rw [er.out]; rfl, rfl⟩
        | false =>
          go_wp2_with (first | (go_at_call 22; refine (within_any _ _ _ _ _ hp1.out).mono ?_; rintro e w' ⟨rfl, rfl⟩) | (go_at_call 23; refine (contains_int _ _ _ _ _ _ htk _ hp2.out).mono ?_; rintro e w' ⟨rfl, rfl⟩))
          go_round
          case rel => exact ⟨k + 1, by omega, by go_num, mUpTo_succ hup.out hxk.out hp1.out hp2.out⟩
          case measure => simp [intOf]; omega
    · have hk' : Hid (k = n) := by have : k = n := by omega
                                   exact this
      have er : r = q := by
        rw [← hr.out]
        have := hup.out
        rw [hk'.out] at this
        rw [this, Bool.true_and]
      replace er := Lib.hid er
      go_wp2_with (go_at_call 22; refine (within_any _ _ _ _ _ hq.out).mono ?_; rintro e w' ⟨rfl, rfl⟩)
      go_ret
      exact ⟨by rw [er.out]; rfl, rfl⟩
theorem hello_own (w : World) (n : Nat) : (w.alloc (.cells #[.int .i64 5, .int .i64 (n : Int)] 3)).ownsRow w.heap.size 3 1 (.slice (some ⟨w.heap.size, 0, none⟩) 2 2) 2 (ints [5, (n : Int)]) := World.ownsRow_lit _ _ 2 (Nat.le_refl _) (by decide) rfl
set_option maxHeartbeats 1000000 in
theorem helloBytes_impl (A : Option Addr) (n c : Nat) (ms : List Int) (w : World) (hx : Rd w A n (ints ms)) (hc : n ≤ c) (zs : List Int) (b : Bool) (h : helloB ms = (zs, b)) :
    Calls Try.prog 6 #[.slice A n c] w (RetIB w zs b) := by
  unfold helloB at h
  have hl := hx.ilen
  have hm := hx.max
  cases hv : methV ms with
  | false =>
    rw [hv] at h
    injection h with h2 h3
    subst h2 h3
    replace hv := Lib.hid hv
    go_enter Try.func6, Try.ntmps6
    go_wp2_with (go_at_call 15; refine (areMethods_any _ _ _ _ _ hx hc _ hv.out).mono ?_; rintro e w' ⟨rfl, rfl⟩)
    go_ret2
    exact ⟨_, 0, _, rfl, own_nil2 _, by go_grown⟩
  | true =>
    have h8 := methV_length hv
    rw [hv, hl] at h
    injection h with h2 h3
    subst h2 h3
    have hn8 : n ≤ 8 := by omega
    replace hl := Lib.hid hl
    replace hv := Lib.hid hv
    clear h8
    have hB := hello_own w n
    have hx' := hx.alloc (.cells #[.int .i64 5, .int .i64 (n : Int)] 3)
    go_enter Try.func6, Try.ntmps6
    go_wp2_with (first | (go_at_call 15; refine (areMethods_any _ _ _ _ _ hx hc _ hv.out).mono ?_; rintro e w' ⟨rfl, rfl⟩) | (at_builtin; refine wpList_append_rd _ rfl _ _ rfl w.heap.size _ _ _ _ rfl hB _ _ _ _ rfl hx' (by omega) (by simp) ?_))
    intro A' c' w1 ho hg
    go_wp2
    go_ret2
    exact ⟨_, _, _, rfl, ho, bgrow ((Below.refl _ _).alloc (Nat.le_refl _) _) hg (own_frees hB)⟩
theorem helloBytes_spec (A : Option Addr) (n c : Nat) (ms : List Int) (w : World) (hx : Rd w A n (ints ms)) (hc : n ≤ c) (zs : List Int) (b : Bool) (h : helloB ms = (zs, b)) :
    Calls Try.prog 7 #[.slice A n c] w (RetIB w zs b) := by
  unfold helloB at h
  have hl := hx.ilen
  have hm := hx.max
  cases hv : methV ms with
  | false =>
    rw [hv] at h
    injection h with h2 h3
    subst h2 h3
    replace hv := Lib.hid hv
    go_enter Try.func7, Try.ntmps7
    go_wp2_with (go_at_call 16; refine (l5Ok_any _ _ _ _ _ hx hc _ hv.out).mono ?_; rintro e w1 ⟨rfl, hb1⟩)
    go_ret2
    exact ⟨_, 0, _, rfl, own_base (own_empty w1) hb1.size, hb1.alloc hb1.size _⟩
  | true =>
    have h8 := methV_length hv
    rw [hv, hl] at h
    injection h with h2 h3
    subst h2 h3
    have hn8 : n ≤ 8 := by omega
    replace hl := Lib.hid hl
    replace hv := Lib.hid hv
    clear h8
    go_enter Try.func7, Try.ntmps7
    go_wp2_with fail
    refine (l5Ok_any _ _ _ _ _ hx hc _ hv.out).mono ?_
    rintro e w1 ⟨rfl, hb1⟩
    have hB := hello_own w1 n
    have hx' := (hx.below hb1).alloc (.cells #[.int .i64 5, .int .i64 (n : Int)] 3)
    go_wp2_with (at_builtin; refine wpList_append_rd _ rfl _ _ rfl w1.heap.size _ _ _ _ rfl hB _ _ _ _ rfl hx' (by omega) (by simp) ?_)
    intro A' c' w2 ho hg
    go_wp2
    go_ret2
    exact ⟨_, _, _, rfl, own_base ho hb1.size, bgrow (hb1.alloc hb1.size _) hg (fun k hk => Nat.le_trans hb1.size (own_frees hB k hk))⟩
end Go.Proofs.Ytfikfihcjddgnaa
