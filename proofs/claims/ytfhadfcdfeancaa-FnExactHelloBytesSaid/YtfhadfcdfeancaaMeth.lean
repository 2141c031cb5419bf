/- What the tests of methods, HelloBytes and HelloPick return, in the program and in the reference. No condition. -/
import Derived.Test.YtfhadfcdfeancaaApp
namespace Go.Proofs.Ytfhadfcdfeancaa
open Go.RowKit

theorem contains_take_succ {zs : List Int} {k : Nat} {x v : Int} (h : (zs.take k).contains v = false) (hx : zs[k]? = some x) (hne : x ≠ v) : (zs.take (k + 1)).contains v = false := by
  rw [List.take_add_one, hx]
  simp only [List.contains_eq_mem, decide_eq_false_iff_not, List.mem_append, Option.toList_some, List.mem_singleton, not_or] at h ⊢
  exact ⟨h, fun e => hne e.symm⟩
theorem contains_at {zs : List Int} {k : Nat} {v : Int} (hx : zs[k]? = some v) : zs.contains v = true := by
  simp only [List.contains_eq_mem, decide_eq_true_eq]
  exact List.mem_of_getElem? hx

/-- An index of what is there, or -1. -/
def FoundIn (there : Bool) (e : Ending) : Prop := ∃ r : Int, e = .returned (.int .i64 r) ∧ (there = false → r = -1) ∧ (there = true → 0 ≤ r)
set_option maxHeartbeats 400000 in
theorem l5Has_any (A : Option Addr) (n c : Nat) (zs : List Int) (v : Int) (w : World) (hx : Rd w A n (ints zs)) (r : Bool) (hr : zs.contains v = r) :
    Calls Try.prog 56 #[.slice A n c, .int .i64 v] w fun e w' => e = .returned (.bool r) ∧ w = w' := by
  have hl := hx.ilen
  have hm := hx.max
  replace hl := Lib.hid hl
  replace hr := Lib.hid hr
  go_enter Try.func56, Try.ntmps56
  go_wp2
  go_loop [5] (fun i => ∃ k : Nat, k ≤ n ∧ i = .int .i64 k ∧ Hid ((zs.take k).contains v = false)) (fun i => n - (intOf i).toNat)
  case atStart => exact ⟨0, Nat.zero_le _, rfl, by simp [Hid]⟩
  case round =>
    obtain ⟨k, hk, rfl, hno⟩ := hrel
    by_cases hlt : k < n
    · obtain ⟨b1, o1, x, rfl, hxk, hc1⟩ := hx.int hlt
      replace hxk := Lib.hid hxk
      by_cases hxv : x = v
      · have he : (x == v) = true := by simpa using hxv
        replace hxv := Lib.hid hxv
        go_wp2
        go_ret
        have er : r = true := by rw [← hr.out, ← hxv.out, contains_at hxk.out]
        exact ⟨by rw [er]; rfl, rfl⟩
      · have he : (x == v) = false := by simpa using hxv
        replace hxv := Lib.hid hxv
        go_wp2
        go_round
        case rel => exact ⟨k + 1, by omega, by go_num, contains_take_succ hno.out hxk.out hxv.out⟩
        case measure => simp [intOf]; omega
    · have hk' : Hid (k = n) := by have : k = n := by omega
                                   exact this
      go_wp2
      go_ret
      have er : r = false := by
        have := hno.out
        rw [hk'.out, List.take_of_length_le (Nat.le_of_eq hl.out)] at this
        rw [← hr.out, this]
      exact ⟨by rw [er]; rfl, rfl⟩
set_option maxHeartbeats 2000000 in
theorem l5Ok_any (A : Option Addr) (n c : Nat) (zs : List Int) (w : World) (hx : Rd w A n (ints zs)) (hc : n ≤ c) (r : Bool) (hr : methV zs = r) :
    Calls Try.prog 55 #[.slice A n c] w fun e w' => e = .returned (.bool r) ∧ Below w.heap.size w w' := by
  have hl := hx.ilen
  have hm := hx.max
  rw [methV_eq hl] at hr
  obtain ⟨q, hq⟩ : ∃ q, inR n 1 8 = q := ⟨_, rfl⟩
  rw [hq] at hr
  replace hl := Lib.hid hl
  replace hr := Lib.hid hr
  replace hq := Lib.hid hq
  go_enter Try.func55, Try.ntmps55
  go_wp2
  go_loopw [3] (fun i wr => ∃ k : Nat, k ≤ n ∧ i = .int .i64 k ∧ Hid (mUpTo zs k = true) ∧ Below w.heap.size w wr) (fun i _ => n - (intOf i).toNat)
  case atStart => exact ⟨0, Nat.zero_le _, rfl, mUpTo_zero zs, Below.refl _ _⟩
  case round =>
    obtain ⟨k, hk, rfl, hup, hb⟩ := hrel
    by_cases hlt : k < n
    · have hxr := hx.below hb
      have htk := hxr.take (k := k) (by omega)
      rw [← List.map_take] at htk
      obtain ⟨b1, o1, x, rfl, hxk, hc1⟩ := hxr.int hlt
      replace hxk := Lib.hid hxk
      have hkc : k ≤ c := by omega
      have hlt' : (k : Int) < (n : Int) := by omega
      obtain ⟨p1, hp1⟩ : ∃ p, inR x 0 254 = p := ⟨_, rfl⟩
      obtain ⟨p2, hp2⟩ : ∃ p, (zs.take k).contains x = p := ⟨_, rfl⟩
      replace hp1 := Lib.hid hp1
      replace hp2 := Lib.hid hp2
      cases p1 with
      | false =>
        have er : r = false := by rw [← hr.out, mUpTo_bad hlt hxk.out (.inl hp1.out), Bool.false_and]
        replace er := Lib.hid er
        go_wp2_with (go_quiet ((first | (go_at_call 40; exact quiet_same (l6In_any _ _ _ _ _ hp1.out)))))
        go_ret
        exact ⟨by rw [er.out]; rfl, bdrewN hb _⟩
      | true =>
        cases p2 with
        | true =>
          have er : r = false := by rw [← hr.out, mUpTo_bad hlt hxk.out (.inr hp2.out), Bool.false_and]
          replace er := Lib.hid er
          go_wp2_with (go_quiet ((first | (go_at_call 40; exact quiet_same (l6In_any _ _ _ _ _ hp1.out)) | (go_at_call 56; exact quiet_same (l5Has_any _ _ _ _ _ _ (htk.drewN _) _ hp2.out)))))
          go_ret
          exact ⟨by rw [er.out]; rfl, bdrewN hb _⟩
        | false =>
          go_wp2_with (go_quiet ((first | (go_at_call 40; exact quiet_same (l6In_any _ _ _ _ _ hp1.out)) | (go_at_call 56; exact quiet_same (l5Has_any _ _ _ _ _ _ (htk.drewN _) _ hp2.out)))))
          go_roundw
          case rel => exact ⟨k + 1, by omega, by go_num, mUpTo_succ hup.out hxk.out hp1.out hp2.out, bdrewN hb _⟩
          case measure => simp [intOf]; omega
    · have hk' : Hid (k = n) := by have : k = n := by omega
                                   exact this
      have er : r = q := by
        rw [← hr.out]
        have := hup.out
        rw [hk'.out] at this
        rw [this, Bool.true_and]
      replace er := Lib.hid er
      go_wp2_with (go_at_call 40; refine (l6In_any _ _ _ _ _ hq.out).mono ?_; rintro e w' ⟨rfl, rfl⟩)
      go_ret
      exact ⟨by rw [er.out]; rfl, hb⟩
set_option maxHeartbeats 400000 in
theorem index_int (A : Option Addr) (n c : Nat) (zs : List Int) (v : Int) (w : World) (hx : Rd w A n (ints zs)) :
    Calls Try.prog 61 #[.slice A n c, .int .i64 v] w fun e w' => FoundIn (zs.contains v) e ∧ w = w' := by
  have hl := hx.ilen
  have hm := hx.max
  replace hl := Lib.hid hl
  go_enter Try.func61, Try.ntmps61
  go_wp2
  go_loop [8] (fun i => ∃ k : Nat, k ≤ n ∧ i = .int .i64 k ∧ Hid ((zs.take k).contains v = false)) (fun i => n - (intOf i).toNat)
  case atStart => exact ⟨0, Nat.zero_le _, rfl, by simp [Hid]⟩
  case round =>
    obtain ⟨k, hk, rfl, hno⟩ := hrel
    by_cases hlt : k < n
    · obtain ⟨b1, o1, x, rfl, hxk, hc1⟩ := hx.int hlt
      replace hxk := Lib.hid hxk
      by_cases hxv : x = v
      · have he : (v == x) = true := by simpa using hxv.symm
        have er : zs.contains v = true := by rw [← hxv, contains_at hxk.out]
        replace er := Lib.hid er
        clear hxv
        go_wp2
        go_ret
        exact ⟨⟨k, rfl, (fun h => absurd (show zs.contains v = false by simpa using h) (by rw [er.out]; simp)), fun _ => by omega⟩, rfl⟩
      · have he : (v == x) = false := by simpa using fun e => hxv e.symm
        replace hxv := Lib.hid hxv
        go_wp2
        go_round
        case rel => exact ⟨k + 1, by omega, by go_num, contains_take_succ hno.out hxk.out hxv.out⟩
        case measure => simp [intOf]; omega
    · have hk' : Hid (k = n) := by have : k = n := by omega
                                   exact this
      go_wp2
      go_ret
      have er : zs.contains v = false := by
        have := hno.out
        rwa [hk'.out, List.take_of_length_le (Nat.le_of_eq hl.out)] at this
      exact ⟨⟨-1, rfl, fun _ => rfl, (fun h => absurd (show zs.contains v = true by simpa using h) (by rw [er]; simp))⟩, rfl⟩
theorem contains_int (A : Option Addr) (n c : Nat) (zs : List Int) (v : Int) (w : World) (hx : Rd w A n (ints zs)) (r : Bool) (hr : zs.contains v = r) :
    Calls Try.prog 58 #[.slice A n c, .int .i64 v] w fun e w' => e = .returned (.bool r) ∧ w = w' := by
  replace hr := Lib.hid hr
  go_enter Try.func58, Try.ntmps58
  go_wp2_with fail
  refine (index_int _ _ _ _ _ _ hx).mono ?_
  rintro e w' ⟨⟨q, rfl, h1, h2⟩, rfl⟩
  rw [hr.out] at h1 h2
  cases r with
  | false =>
    have hq := h1 rfl
    subst hq
    clear h1 h2
    go_wp2
    go_ret
    exact ⟨rfl, rfl⟩
  | true =>
    have hq := h2 rfl
    clear h1 h2
    have hd : decide (0 ≤ q) = true := by simpa using hq
    go_wp2
    go_ret
    exact ⟨rfl, rfl⟩
set_option maxHeartbeats 2000000 in
theorem areMethods_any (A : Option Addr) (n c : Nat) (zs : List Int) (w : World) (hx : Rd w A n (ints zs)) (hc : n ≤ c) (r : Bool) (hr : methV zs = r) :
    Calls Try.prog 57 #[.slice A n c] w fun e w' => e = .returned (.bool r) ∧ w = w' := by
  have hl := hx.ilen
  have hm := hx.max
  rw [methV_eq hl] at hr
  obtain ⟨q, hq⟩ : ∃ q, inR n 1 8 = q := ⟨_, rfl⟩
  rw [hq] at hr
  replace hl := Lib.hid hl
  replace hr := Lib.hid hr
  replace hq := Lib.hid hq
  go_enter Try.func57, Try.ntmps57
  go_wp2
  go_loop [7] (fun i => ∃ k : Nat, k ≤ n ∧ i = .int .i64 k ∧ Hid (mUpTo zs k = true)) (fun i => n - (intOf i).toNat)
  case atStart => exact ⟨0, Nat.zero_le _, rfl, mUpTo_zero zs⟩
  case round =>
    obtain ⟨k, hk, rfl, hup⟩ := hrel
    by_cases hlt : k < n
    · have htk := hx.take (k := k) (by omega)
      rw [← List.map_take] at htk
      obtain ⟨b1, o1, x, rfl, hxk, hc1⟩ := hx.int hlt
      replace hxk := Lib.hid hxk
      have hkc : k ≤ c := by omega
      have hlt' : (k : Int) < (n : Int) := by omega
      obtain ⟨p1, hp1⟩ : ∃ p, inR x 0 254 = p := ⟨_, rfl⟩
      obtain ⟨p2, hp2⟩ : ∃ p, (zs.take k).contains x = p := ⟨_, rfl⟩
      replace hp1 := Lib.hid hp1
      replace hp2 := Lib.hid hp2
      cases p1 with
      | false =>
        have er : r = false := by rw [← hr.out, mUpTo_bad hlt hxk.out (.inl hp1.out), Bool.false_and]
        replace er := Lib.hid er
        go_wp2_with (go_at_call 42; refine (within_any _ _ _ _ _ hp1.out).mono ?_; rintro e w' ⟨rfl, rfl⟩)
        go_ret
        exact ⟨by rw [er.out]; rfl, rfl⟩
      | true =>
        cases p2 with
        | true =>
          have er : r = false := by rw [← hr.out, mUpTo_bad hlt hxk.out (.inr hp2.out), Bool.false_and]
          replace er := Lib.hid er
          go_wp2_with (first | (go_at_call 42; refine (within_any _ _ _ _ _ hp1.out).mono ?_; rintro e w' ⟨rfl, rfl⟩) | (go_at_call 58; refine (contains_int _ _ _ _ _ _ htk _ hp2.out).mono ?_; rintro e w' ⟨rfl, rfl⟩))
          go_ret
          exact ⟨by rw [er.out]; rfl, rfl⟩
        | false =>
          go_wp2_with (first | (go_at_call 42; refine (within_any _ _ _ _ _ hp1.out).mono ?_; rintro e w' ⟨rfl, rfl⟩) | (go_at_call 58; refine (contains_int _ _ _ _ _ _ htk _ hp2.out).mono ?_; rintro e w' ⟨rfl, rfl⟩))
          go_round
          case rel => exact ⟨k + 1, by omega, by go_num, mUpTo_succ hup.out hxk.out hp1.out hp2.out⟩
          case measure => simp [intOf]; omega
    · have hk' : Hid (k = n) := by have : k = n := by omega
                                   exact this
      have er : r = q := by
        rw [← hr.out]
        have := hup.out
        rw [hk'.out] at this
        rw [this, Bool.true_and]
      replace er := Lib.hid er
      go_wp2_with (go_at_call 42; refine (within_any _ _ _ _ _ hq.out).mono ?_; rintro e w' ⟨rfl, rfl⟩)
      go_ret
      exact ⟨by rw [er.out]; rfl, rfl⟩
theorem hello_own (w : World) (n : Nat) : (w.alloc (.cells #[.int .i64 5, .int .i64 (n : Int)] 3)).ownsRow w.heap.size 3 1 (.slice (some ⟨w.heap.size, 0, none⟩) 2 2) 2 (ints [5, (n : Int)]) := World.ownsRow_lit _ _ 2 (Nat.le_refl _) (by decide) rfl
set_option maxHeartbeats 1000000 in
theorem helloBytes_impl (A : Option Addr) (n c : Nat) (ms : List Int) (w : World) (hx : Rd w A n (ints ms)) (hc : n ≤ c) (zs : List Int) (b : Bool) (h : helloB ms = (zs, b)) :
    Calls Try.prog 33 #[.slice A n c] w (RetIB w zs b) := by
  unfold helloB at h
  have hl := hx.ilen
  have hm := hx.max
  cases hv : methV ms with
  | false =>
    rw [hv] at h
    injection h with h2 h3
    subst h2 h3
    replace hv := Lib.hid hv
    go_enter Try.func33, Try.ntmps33
    go_wp2_with (go_at_call 57; refine (areMethods_any _ _ _ _ _ hx hc _ hv.out).mono ?_; rintro e w' ⟨rfl, rfl⟩)
    go_ret2
    exact ⟨_, 0, _, rfl, own_nil2 _, by go_grown⟩
  | true =>
    have h8 := methV_length hv
    rw [hv, hl] at h
    injection h with h2 h3
    subst h2 h3
    have hn8 : n ≤ 8 := by omega
    replace hl := Lib.hid hl
    replace hv := Lib.hid hv
    clear h8
    have hB := hello_own w n
    have hx' := hx.alloc (.cells #[.int .i64 5, .int .i64 (n : Int)] 3)
    go_enter Try.func33, Try.ntmps33
    go_wp2_with (first | (go_at_call 57; refine (areMethods_any _ _ _ _ _ hx hc _ hv.out).mono ?_; rintro e w' ⟨rfl, rfl⟩) | (at_builtin; refine wpList_append_rd _ rfl _ _ rfl w.heap.size _ _ _ _ rfl hB _ _ _ _ rfl hx' (by omega) (by simp) ?_))
    intro A' c' w1 ho hg
    go_wp2
    go_ret2
    exact ⟨_, _, _, rfl, ho, bgrow ((Below.refl _ _).alloc (Nat.le_refl _) _) hg (own_frees hB)⟩
theorem helloBytes_spec (A : Option Addr) (n c : Nat) (ms : List Int) (w : World) (hx : Rd w A n (ints ms)) (hc : n ≤ c) (zs : List Int) (b : Bool) (h : helloB ms = (zs, b)) :
    Calls Try.prog 32 #[.slice A n c] w (RetIB w zs b) := by
  unfold helloB at h
  have hl := hx.ilen
  have hm := hx.max
  cases hv : methV ms with
  | false =>
    rw [hv] at h
    injection h with h2 h3
    subst h2 h3
    replace hv := Lib.hid hv
    go_enter Try.func32, Try.ntmps32
    go_wp2_with (go_at_call 55; refine (l5Ok_any _ _ _ _ _ hx hc _ hv.out).mono ?_; rintro e w1 ⟨rfl, hb1⟩)
    go_ret2
    exact ⟨_, 0, _, rfl, own_base (own_empty w1) hb1.size, hb1.alloc hb1.size _⟩
  | true =>
    have h8 := methV_length hv
    rw [hv, hl] at h
    injection h with h2 h3
    subst h2 h3
    have hn8 : n ≤ 8 := by omega
    replace hl := Lib.hid hl
    replace hv := Lib.hid hv
    clear h8
    go_enter Try.func32, Try.ntmps32
    go_wp2_with fail
    refine (l5Ok_any _ _ _ _ _ hx hc _ hv.out).mono ?_
    rintro e w1 ⟨rfl, hb1⟩
    have hB := hello_own w1 n
    have hx' := (hx.below hb1).alloc (.cells #[.int .i64 5, .int .i64 (n : Int)] 3)
    go_wp2_with (at_builtin; refine wpList_append_rd _ rfl _ _ rfl w1.heap.size _ _ _ _ rfl hB _ _ _ _ rfl hx' (by omega) (by simp) ?_)
    intro A' c' w2 ho hg
    go_wp2
    go_ret2
    exact ⟨_, _, _, rfl, own_base ho hb1.size, bgrow (hb1.alloc hb1.size _) hg (fun k hk => Nat.le_trans hb1.size (own_frees hB k hk))⟩
theorem find_at {p : Int → Bool} {zs : List Int} {k : Nat} {x : Int} (h : (zs.take k).find? p = none) (hx : zs[k]? = some x) (hp : p x = true) : zs.find? p = some x := by
  have hk : k < zs.length := (List.getElem?_eq_some_iff.1 hx).1
  have e : zs = zs.take k ++ x :: zs.drop (k + 1) := by
    have hg : zs[k] = x := (List.getElem?_eq_some_iff.1 hx).2
    rw [← hg, ← List.drop_eq_getElem_cons hk, List.take_append_drop]
  rw [e, List.find?_append, h]
  simp [hp]
theorem find_take_succ {p : Int → Bool} {zs : List Int} {k : Nat} {x : Int} (h : (zs.take k).find? p = none) (hx : zs[k]? = some x) (hp : p x = false) : (zs.take (k + 1)).find? p = none := by
  rw [List.take_add_one, hx, List.find?_append, h]
  simp [hp]
set_option maxHeartbeats 2000000 in
theorem helloPick_impl (A : Option Addr) (n c : Nat) (ws : List Int) (A2 : Option Addr) (m c2 : Nat) (ms : List Int) (w : World) (hx : Rd w A n (ints ws)) (hc : n ≤ c) (hy : Rd w A2 m (ints ms)) (hc2 : m ≤ c2) (r : Int) (hr : pickM ws ms = r) :
    Calls Try.prog 31 #[.slice A n c, .slice A2 m c2] w fun e w' => e = .returned (.int .i64 r) ∧ Below w.heap.size w w' := by
  have hl := hx.ilen
  have hm := hx.max
  obtain ⟨p, hp⟩ : ∃ p, methV ws = p := ⟨_, rfl⟩
  obtain ⟨q, hq⟩ : ∃ q, methV ms = q := ⟨_, rfl⟩
  unfold pickM at hr
  rw [hp, hq] at hr
  replace hl := Lib.hid hl
  replace hp := Lib.hid hp
  replace hq := Lib.hid hq
  have hB0 := Below.refl w.heap.size w
  cases p with
  | false =>
    obtain rfl : r = 255 := hr.symm
    clear hr
    go_enter Try.func31, Try.ntmps31
    go_wp2_with fail
    refine (areMethods_any _ _ _ _ _ hx hc _ hp.out).mono ?_
    rintro e w' ⟨rfl, rfl⟩
    go_wp2_with fail
    go_ret
    exact ⟨rfl, hB0⟩
  | true =>
    cases q with
    | false =>
      obtain rfl : r = 255 := hr.symm
      clear hr
      go_enter Try.func31, Try.ntmps31
      go_wp2_with fail
      refine (areMethods_any _ _ _ _ _ hx hc _ hp.out).mono ?_
      rintro e w' ⟨rfl, rfl⟩
      go_wp2_with fail
      refine (areMethods_any _ _ _ _ _ hy hc2 _ hq.out).mono ?_
      rintro e w' ⟨rfl, rfl⟩
      go_wp2_with fail
      go_ret
      exact ⟨rfl, hB0⟩
    | true =>
      replace hr : (ws.find? fun x => ms.contains x).getD 255 = r := hr
      replace hr := Lib.hid hr
      go_enter Try.func31, Try.ntmps31
      go_wp2_with fail
      refine (areMethods_any _ _ _ _ _ hx hc _ hp.out).mono ?_
      rintro e w' ⟨rfl, rfl⟩
      go_wp2_with fail
      refine (areMethods_any _ _ _ _ _ hy hc2 _ hq.out).mono ?_
      rintro e w' ⟨rfl, rfl⟩
      go_wp2_with fail
      clear hp hq hc hc2
      go_loop [17] (fun i => ∃ k : Nat, k ≤ n ∧ i = .int .i64 k ∧ Hid ((ws.take k).find? (fun x => ms.contains x) = none)) (fun i => n - (intOf i).toNat)
      case atStart => exact ⟨0, Nat.zero_le _, rfl, by simp [Hid]⟩
      case round =>
        obtain ⟨k, hk, rfl, hno⟩ := hrel
        by_cases hlt : k < n
        · obtain ⟨b1, o1, x, rfl, hxk, hc1⟩ := hx.int hlt
          replace hxk := Lib.hid hxk
          obtain ⟨t, ht⟩ : ∃ t, ms.contains x = t := ⟨_, rfl⟩
          replace ht := Lib.hid ht
          go_wp2_with fail
          refine (contains_int _ _ _ _ _ _ hy _ ht.out).mono ?_
          rintro e w' ⟨rfl, rfl⟩
          cases t with
          | true =>
            have er : r = x := by rw [← hr.out, find_at hno.out hxk.out ht.out]; rfl
            clear hno hr hxk ht
            subst er
            go_wp2_with fail
            go_ret
            exact ⟨rfl, hB0⟩
          | false =>
            have hn' := Lib.hid (find_take_succ hno.out hxk.out ht.out)
            clear hno hxk ht
            go_wp2_with fail
            go_round
            case rel => exact ⟨k + 1, by omega, by go_num, hn'⟩
            case measure => simp [intOf]; omega
        · have er : r = 255 := by
            have h := hno.out
            rw [List.take_of_length_le (by have := hl.out; omega)] at h
            rw [← hr.out, h]; rfl
          clear hno hr
          subst er
          go_wp2_with fail
          go_ret
          exact ⟨rfl, hB0⟩
set_option maxHeartbeats 2000000 in
theorem helloPick_spec (A : Option Addr) (n c : Nat) (ws : List Int) (A2 : Option Addr) (m c2 : Nat) (ms : List Int) (w : World) (hx : Rd w A n (ints ws)) (hc : n ≤ c) (hy : Rd w A2 m (ints ms)) (hc2 : m ≤ c2) (r : Int) (hr : pickM ws ms = r) :
    Calls Try.prog 30 #[.slice A n c, .slice A2 m c2] w fun e w' => e = .returned (.int .i64 r) ∧ Below w.heap.size w w' := by
  have hl := hx.ilen
  have hm := hx.max
  obtain ⟨p, hp⟩ : ∃ p, methV ws = p := ⟨_, rfl⟩
  obtain ⟨q, hq⟩ : ∃ q, methV ms = q := ⟨_, rfl⟩
  unfold pickM at hr
  rw [hp, hq] at hr
  replace hl := Lib.hid hl
  replace hp := Lib.hid hp
  replace hq := Lib.hid hq
  have hB0 := Below.refl w.heap.size w
  cases p with
  | false =>
    obtain rfl : r = 255 := hr.symm
    clear hr
    go_enter Try.func30, Try.ntmps30
    go_wp2_with fail
    refine (l5Ok_any _ _ _ _ _ hx hc _ hp.out).mono ?_
    rintro e w1 ⟨rfl, hb1⟩
    go_wp2_with fail
    go_ret
    exact ⟨rfl, hb1⟩
  | true =>
    cases q with
    | false =>
      obtain rfl : r = 255 := hr.symm
      clear hr
      go_enter Try.func30, Try.ntmps30
      go_wp2_with fail
      refine (l5Ok_any _ _ _ _ _ hx hc _ hp.out).mono ?_
      rintro e w1 ⟨rfl, hb1⟩
      go_wp2_with fail
      refine (l5Ok_any _ _ _ _ _ (hy.below hb1) hc2 _ hq.out).mono ?_
      rintro e w2 ⟨rfl, hb2⟩
      go_wp2_with fail
      go_ret
      exact ⟨rfl, bstep hb1 hb2⟩
    | true =>
      replace hr : (ws.find? fun x => ms.contains x).getD 255 = r := hr
      replace hr := Lib.hid hr
      go_enter Try.func30, Try.ntmps30
      go_wp2_with fail
      refine (l5Ok_any _ _ _ _ _ hx hc _ hp.out).mono ?_
      rintro e w1 ⟨rfl, hb1⟩
      go_wp2_with fail
      refine (l5Ok_any _ _ _ _ _ (hy.below hb1) hc2 _ hq.out).mono ?_
      rintro e w2 ⟨rfl, hb2⟩
      replace hB0 := bstep hb1 hb2
      replace hx := (hx.below hb1).below hb2
      replace hy := (hy.below hb1).below hb2
      clear hb1 hb2
      go_wp2_with fail
      clear hp hq hc hc2
      go_loop [5] (fun i => ∃ k : Nat, k ≤ n ∧ i = .int .i64 k ∧ Hid ((ws.take k).find? (fun x => ms.contains x) = none)) (fun i => n - (intOf i).toNat)
      case atStart => exact ⟨0, Nat.zero_le _, rfl, by simp [Hid]⟩
      case round =>
        obtain ⟨k, hk, rfl, hno⟩ := hrel
        by_cases hlt : k < n
        · obtain ⟨b1, o1, x, rfl, hxk, hc1⟩ := hx.int hlt
          replace hxk := Lib.hid hxk
          obtain ⟨t, ht⟩ : ∃ t, ms.contains x = t := ⟨_, rfl⟩
          replace ht := Lib.hid ht
          go_wp2_with fail
          refine (l5Has_any _ _ _ _ _ _ hy _ ht.out).mono ?_
          rintro e w' ⟨rfl, rfl⟩
          cases t with
          | true =>
            have er : r = x := by rw [← hr.out, find_at hno.out hxk.out ht.out]; rfl
            clear hno hr hxk ht
            subst er
            go_wp2_with fail
            go_ret
            exact ⟨rfl, hB0⟩
          | false =>
            have hn' := Lib.hid (find_take_succ hno.out hxk.out ht.out)
            clear hno hxk ht
            go_wp2_with fail
            go_round
            case rel => exact ⟨k + 1, by omega, by go_num, hn'⟩
            case measure => simp [intOf]; omega
        · have er : r = 255 := by
            have h := hno.out
            rw [List.take_of_length_le (by have := hl.out; omega)] at h
            rw [← hr.out, h]; rfl
          clear hno hr
          subst er
          go_wp2_with fail
          go_ret
          exact ⟨rfl, hB0⟩
end Go.Proofs.Ytfhadfcdfeancaa
