/- What the statements' own helpers do: comparing, marking, looking at marks, copying; and the tests for a range. No condition. -/
import Derived.Test.YthgfldabeaepaaaGreatDoorProg
import Derived.Test.YthgfldabeaepaaaGreatDoorMem
import Derived.Test.YthgfldabeaepaaaGreatDoorPlain
import Derived.WalkSpells
namespace Go.Proofs.YthgfldabeaepaaaGreatDoor
open Go.RowKit

theorem Tryz.infoInt : (Tryz.prog.info? 3).map (fun i => (i.zero, i.size, i.bytes)) = some (some (.int .i64 0), 1, 8) := by kernel_rfl

theorem own_nil2 (w : World) : w.ownsRow w.heap.size 3 1 (.slice none 0 0) 0 (ints []) := World.ownsRow_nil _ _ _ _
theorem own_empty (w : World) : (w.alloc (.cells #[] 3)).ownsRow w.heap.size 3 1 (.slice (some ⟨w.heap.size, 0, none⟩) 0 0) 0 (ints []) := World.ownsRow_lit _ _ 0 (Nat.le_refl _) (by decide) rfl

/-- Two results: a slice of the call's own that holds zs, and b. -/
def RetIB (w : World) (zs : List Int) (b : Bool) (e : Ending) (w' : World) : Prop :=
  ∃ A n c, e = .returned (.tuple #[.slice A n c, .bool b]) ∧ w'.ownsRow w.heap.size 3 1 (.slice A n c) n (ints zs) ∧ Below w.heap.size w w'
/-- One result: a slice of the call's own that holds zs. -/
def RetI (w : World) (zs : List Int) (e : Ending) (w' : World) : Prop :=
  ∃ A n c, e = .returned (.slice A n c) ∧ w'.ownsRow w.heap.size 3 1 (.slice A n c) n (ints zs) ∧ Below w.heap.size w w'

theorem within_any (x lo hi : Int) (w : World) (r : Bool) (hr : inR x lo hi = r) : Calls Tryz.prog 41 #[.int .i64 x, .int .i64 lo, .int .i64 hi] w fun e w' => e = .returned (.bool r) ∧ w = w' := by
  subst hr
  by_cases h1 : lo ≤ x
  · by_cases h2 : x ≤ hi
    · have e : inR x lo hi = true := inR_true.2 ⟨h1, h2⟩
      rw [e]
      go_enter Tryz.func41, Tryz.ntmps41
      go_wp2
      go_ret
      exact ⟨rfl, rfl⟩
    · have e : inR x lo hi = false := inR_false.2 (by omega)
      rw [e]
      go_enter Tryz.func41, Tryz.ntmps41
      go_wp2
      go_ret
      exact ⟨rfl, rfl⟩
  · have e : inR x lo hi = false := inR_false.2 (by omega)
    rw [e]
    go_enter Tryz.func41, Tryz.ntmps41
    go_wp2
    go_ret
    exact ⟨rfl, rfl⟩
theorem l6In_any (x lo hi : Int) (w : World) (r : Bool) (hr : inR x lo hi = r) : Calls Tryz.prog 37 #[.int .i64 x, .int .i64 lo, .int .i64 hi] w fun e w' => e = .returned (.bool r) ∧ w = w' := by
  subst hr
  by_cases h1 : lo ≤ x
  · by_cases h2 : x ≤ hi
    · have e : inR x lo hi = true := inR_true.2 ⟨h1, h2⟩
      rw [e]
      go_enter Tryz.func37, Tryz.ntmps37
      go_wp2
      go_ret
      exact ⟨rfl, rfl⟩
    · have e : inR x lo hi = false := inR_false.2 (by omega)
      rw [e]
      go_enter Tryz.func37, Tryz.ntmps37
      go_wp2
      go_ret
      exact ⟨rfl, rfl⟩
  · have e : inR x lo hi = false := inR_false.2 (by omega)
    rw [e]
    go_enter Tryz.func37, Tryz.ntmps37
    go_wp2
    go_ret
    exact ⟨rfl, rfl⟩

set_option maxRecDepth 20000 in
set_option maxHeartbeats 400000 in
theorem sameBytes_any (A B : Option Addr) (n m c d : Nat) (xs ys : List Int) (w : World) (hx : Rd w A n (ints xs)) (hy : Rd w B m (ints ys)) :
    Calls Tryz.prog 22 #[.slice A n c, .slice B m d] w fun e w' => e = .returned (.bool (decide (xs = ys))) ∧ Below w.heap.size w w' := by
  have hn := hx.max
  have hm := hy.max
  by_cases hnm : n = m
  · subst hnm
    go_enter Tryz.func22, Tryz.ntmps22
    go_wp2
    go_loopw [5] (fun i wr => ∃ k : Nat, k ≤ n ∧ i = .int .i64 k ∧ Hid (xs.take k = ys.take k) ∧ Below w.heap.size w wr) (fun i _ => n - (intOf i).toNat)
    case atStart => exact ⟨0, Nat.zero_le _, rfl, by simp [Hid], Below.refl _ _⟩
    case round =>
      obtain ⟨k, hk, rfl, heq, hb⟩ := hrel
      by_cases hlt : k < n
      · obtain ⟨b1, o1, x, rfl, hxk, hc1⟩ := (hx.below hb).int hlt
        obtain ⟨b2, o2, y, rfl, hyk, hc2⟩ := (hy.below hb).int hlt
        replace hxk := Lib.hid hxk
        replace hyk := Lib.hid hyk
        have hlt' : (k : Int) < (n : Int) := by omega
        by_cases hxy : x = y
        · subst hxy
          go_wp2_with (go_quiet (fail))
          go_roundw
          case rel => exact ⟨k + 1, by omega, by go_num, take_eq_succ heq hxk.out hyk.out, bdrewN hb _⟩
          case measure => simp [intOf]; omega
        · have hne : (x != y) = true := by simpa using hxy
          go_wp2_with (go_quiet (fail))
          go_ret
          exact ⟨by rw [decide_eq_false (ne_of_at hxk.out hyk.out hxy)]; rfl, bdrewN hb _⟩
      · have hk' : k = n := by omega
        subst hk'
        go_wp2
        go_ret
        have e : xs = ys := by
          have := heq.out
          rwa [List.take_of_length_le (by have := hx.ilen; omega), List.take_of_length_le (by have := hy.ilen; omega)] at this
        exact ⟨by rw [decide_eq_true e]; rfl, hb⟩
  · have hne : ((n : Int) != (m : Int)) = true := by simpa using by omega
    go_enter Tryz.func22, Tryz.ntmps22
    go_wp2
    go_ret
    have e : xs ≠ ys := by
      rintro rfl
      have h1 := hx.ilen
      have h2 := hy.ilen
      omega
    exact ⟨by rw [decide_eq_false e]; rfl, Below.refl _ _⟩



end Go.Proofs.YthgfldabeaepaaaGreatDoor
